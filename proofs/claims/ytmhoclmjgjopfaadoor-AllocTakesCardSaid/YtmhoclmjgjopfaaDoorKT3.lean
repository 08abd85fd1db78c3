/- 'AllocTakes' answers true, whatever it is handed, and what it is handed reads behind it as it did: the row, and its tied card. -/
import Derived.RangeFuncNested
import Derived.RangeFuncBound
import Derived.RangeFuncCalls
import Derived.RangeFuncLeaves
import Derived.Shelf.Abstract
import Derived.Laws.AppendOwn
import Derived.Laws.OwnMore
import Derived.KernelRfl
import Derived.IntWalk
import Derived.Laws.Append
import Derived.WideLaws
import Derived.Laws.Slices
import Derived.Laws.MakeOwn
import Derived.OrdersIn
import Derived.Laws.Cover3
import Derived.Test.YtmhoclmjgjopfaaDoorProg
import Derived.Laws.StructEq
import Derived.Shelf.Sort.Plain
import Derived.Sort.OwnSortedInts
import Derived.Shelf.Slices.In.SortNone
import Derived.ProofKit
import Derived.ChangeSlices
import Derived.Carry
import Derived.Deep.Slices
import Derived.OpenShut
import Derived.Test.YtmhoclmjgjopfaaDoorCards
import Derived.Test.YtmhoclmjgjopfaaDoorTie
import Derived.LaidMore
import Derived.Stop.Joined
import Derived.MakeChecks
import Derived.Test.YtmhoclmjgjopfaaDoorKT2
set_option linter.unusedVariables false
set_option linter.unusedSimpArgs false
namespace Go.SX
open Go Go.Proofs

def alloc_all_Id_l1 (a1 : Int → Int → Bool) : List Int → Nat → Unit → LR (Bool) (Unit)
  | [], kl1, sl1 => .go ()
  | yl1 :: ysl1, kl1, sl1 => if (!(a1 ((kl1 : Int)) yl1)) = true then (.ret false) else (alloc_all_Id_l1 a1 ysl1 (kl1 + 1) ())
def alloc_all_Id_m (a0 : List Int) (a1 : Int → Int → Bool) : Bool :=
  LR.on (alloc_all_Id_l1 a1 a0 0 ()) (fun r => r) (fun ol1 => true)
set_option maxHeartbeats 3200000 in
theorem alloc_all_Id_c (H : Heap) (va0 : Value) (a0 : List Int) (ha0 : RdS (intE .u64) H va0 a0) (fa1 : Value) (a1 : Int → Int → Bool) (ha1 : ∀ H', HLe H H' → ∀ (z0 : Int) (z1 : Int), Fv Tryd.prog fa1 [.int .i64 z0, .int .u64 z1] H' (.bool (a1 z0 z1))) : Fv Tryd.prog (fnv 64) [va0, fa1] H (.bool (alloc_all_Id_m a0 a1)) := by
  refine Fc.of_body (N := 20) Tryd.func64 rfl (by kernel_rfl) rfl rfl ?_
  intro w0
  obtain ⟨Aa0, ca0, rfl, hca0, hda0, ha0⟩ := ha0.shape
  refine T.seq ?_
  refine T.region ?_
  refine R.asE rfl (by conv => lhs; whnf) ?_
  refine TL.nil (Post.thnN ?_)
  refine T.seq ?_
  refine T.seq ?_
  refine T.region ?_
  refine R.mvE rfl (by conv => lhs; whnf) ?_
  refine R.len Tryd.underlying29 rfl rfl ?_
  refine R.mvE rfl (by conv => lhs; whnf) ?_
  refine TL.nil (Post.thnN ?_)
  refine T.block ?_
  refine T.loop (ι := Nat) (fun kl1 H' L' ds' => kl1 ≤ a0.length ∧ Has L' [] ∧ alloc_all_Id_l1 a1 (a0.drop kl1) kl1 () = alloc_all_Id_l1 a1 a0 0 ()) (fun kl1 => [(9, .int .i64 (kl1 : Int)), (1, fa1), (7, .slice Aa0 a0.length ca0), (8, .int .i64 (a0.length : Int))]) (fun kl1 => a0.length - kl1) 0 ?_ ?_ ?_
  · exact ⟨(by omega), Has.nil, (by rfl)⟩
  · exact ⟨rfl, rfl, rfl, rfl, trivial⟩
  · intro kl1 σ_l1 H_l1 L_l1 ds_l1 s_l1 hI_l1
    obtain ⟨hkl1, hI_l1⟩ := hI_l1
    obtain ⟨hLl1, hQl1⟩ := hI_l1
    refine T.has hLl1 ?_
    refine T.seq ?_
    refine T.region ?_
    refine R.lss rfl rfl rfl ?_
    refine TL.nil (Post.thnN ?_)
    refine T.seq ?_
    refine T.condD rfl (fun c10 => ?_) (fun c10 => ?_)
    · have hltl1 : kl1 < a0.length := by omega
      obtain ⟨yl1, hyl1⟩ := getk (xs := a0) (k := kl1) (by omega)
      refine T.skip (Post.thnN ?_)
      refine T.seq ?_
      refine T.block ?_
      refine T.seq ?_
      refine T.region ?_
      refine R.mvE rfl (by conv => lhs; whnf) ?_
      obtain ⟨b12, o12, i12, k12⟩ := RdS.elem (ha0.mono s_l1) hyl1
      obtain ⟨l12, g12, k12⟩ := k12
      obtain rfl : l12 = [.int .u64 yl1] := g12
      refine R.ixp Tryd.underlying29 Tryd.sizeOf32 rfl rfl rfl (by omega) i12 ?_
      refine R.ldC Tryd.isAgg32 rfl rfl (k12 0 _ rfl) ?_
      refine R.asE rfl (by conv => lhs; whnf) ?_
      refine R.asE rfl (by conv => lhs; whnf) ?_
      refine TL.nil (Post.thnN ?_)
      refine T.seq ?_
      refine T.region ?_
      refine R.mvE rfl (by conv => lhs; whnf) ?_
      refine R.mvE rfl (by conv => lhs; whnf) ?_
      refine R.mvE rfl (by conv => lhs; whnf) ?_
      refine R.callv rfl rfl rfl (ha1 _ s_l1 ((kl1 : Int)) (yl1)) ?_
      refine R.not rfl rfl ?_
      refine TL.nil (Post.thnN ?_)
      refine T.cond rfl (fun c18 => ?_) (fun c18 => ?_)
      · refine T.set 18 (.bool true) (congrArg Value.bool c18) ?_
        refine T.seq ?_
        refine T.region ?_
        refine R.asE rfl (by conv => lhs; whnf) ?_
        refine TL.nil (Post.thnN ?_)
        refine T.has Has.nil ?_
        refine T.ret (Post.blkR (Post.thnR (Post.thnR (Post.blkR (Post.thnR ?_)))))
        have hXl1 : alloc_all_Id_l1 a1 a0 0 () = .ret false := by rw [← hQl1, drop_cons hyl1, alloc_all_Id_l1]; rw [if_t c18]
        have hM : alloc_all_Id_m a0 a1 = false := by rw [alloc_all_Id_m, hXl1, LR.on_ret]
        exact fin1L (v := .bool false) [] rfl rfl (List.Sublist.refl _) ⟨rfl, by first | rw [hM] | rfl⟩
      · refine T.set 18 (.bool false) (congrArg Value.bool c18) ?_
        refine T.skip (Post.blkN ?_)
        refine id (Post.thnN ?_)
        refine T.region ?_
        refine R.addI rfl rfl rfl (by omega) ?_
        refine R.mvE rfl (by conv => lhs; whnf) ?_
        refine TL.nil (Post.thnN ?_)
        exact ⟨kl1 + 1, s_l1, ⟨(by omega), Has.nil, (by rw [← hQl1, drop_cons hyl1, alloc_all_Id_l1]; rw [if_f c18])⟩, by show a0.length - (kl1 + 1) < a0.length - kl1; omega, rfl, rfl, rfl, rfl, trivial⟩
    · refine T.exit (Post.thnE (Post.thnE (Post.blkX ?_)))
      have hEl1 : alloc_all_Id_l1 a1 a0 0 () = .go () := (hQl1.symm.trans (by rw [show kl1 = a0.length by omega, List.drop_length, alloc_all_Id_l1]))
      refine id (Post.thnN ?_)
      refine T.seq ?_
      refine T.region ?_
      refine R.asE rfl (by conv => lhs; whnf) ?_
      refine TL.nil (Post.thnN ?_)
      refine T.has Has.nil ?_
      refine T.ret ?_
      have hM : alloc_all_Id_m a0 a1 = true := by rw [alloc_all_Id_m, hEl1, LR.on_go]
      exact fin1L (v := .bool true) [] rfl rfl (List.Sublist.refl _) ⟨rfl, by first | rw [hM] | rfl⟩

theorem all_id_l1 (f : Int → Int → Bool) : ∀ (l : List Int) (k : Nat), alloc_all_Id_l1 f l k () = .go () → ∀ (i : Nat) (x : Int), l[i]? = some x → f ((k + i : Nat) : Int) x = true
  | [], k, _, i, x, h => by simp at h
  | y :: ys, k, hg, i, x, h => by
    rw [alloc_all_Id_l1] at hg
    cases hf : f (k : Int) y with
    | false => rw [hf, Bool.not_false, if_pos rfl] at hg; cases hg
    | true =>
      rw [hf, Bool.not_true, if_neg (by decide)] at hg
      cases i with
      | zero => simp at h; subst h; simpa using hf
      | succ i => rw [show k + (i + 1) = k + 1 + i by omega]; exact all_id_l1 f ys (k + 1) hg i x (by simpa using h)
theorem all_id_ret (f : Int → Int → Bool) : ∀ (l : List Int) (k : Nat), alloc_all_Id_l1 f l k () = .go () ∨ alloc_all_Id_l1 f l k () = .ret false
  | [], k => .inl rfl
  | y :: ys, k => by
    rw [alloc_all_Id_l1]
    split
    · exact .inr rfl
    · exact all_id_ret f ys (k + 1)
theorem all_id {f : Int → Bool} {l : List Int} (h : alloc_all_Id_m l (fun _ z => f z) = true) : ∀ x ∈ l, f x = true := by
  intro x hx
  obtain ⟨i, hi⟩ := List.mem_iff_getElem?.1 hx
  unfold alloc_all_Id_m at h
  rcases all_id_ret (fun _ z => f z) l 0 with h1 | h1
  · exact all_id_l1 (fun _ z => f z) l 0 h1 i x hi
  · rw [h1] at h; cases h
def alloc_Give_1_m (q0 : Int × (List (Int × Bool)) × (List Int)) (a0 : Int) (a1 : Int) : Bool :=
  (alloc_alive_m q0 a1)
set_option maxHeartbeats 3200000 in
theorem alloc_Give_1_c (H : Heap) (b1000 : Nat) (q0 : Int × (List (Int × Bool)) × (List Int)) (vq0_1 : Value) (hq0_1 : RdS slotE H vq0_1 q0.2.1) (vq0_2 : Value) (hq0_2 : RdS (intE .i64) H vq0_2 q0.2.2) (hb0 : H b1000 = some (.cells #[.int .i64 q0.1, vq0_1, vq0_2] 25)) (a0 : Int) (a1 : Int) (hs : q0.2.1.length ≤ 2000000) (hf : q0.2.2.length ≤ 2000000) : Fv Tryd.prog (.func (.func 65) #[] ([.pointer (some ⟨b1000, 0, none⟩)] : List Value).toArray) [.int .i64 a0, .int .u64 a1] H (.bool (alloc_Give_1_m q0 a0 a1)) := by
  refine Fc.of_body (N := 9) Tryd.func65 rfl (by kernel_rfl) rfl rfl ?_
  intro w0
  obtain ⟨Aq0_1, cq0_1, rfl, hcq0_1, hdq0_1, hq0_1⟩ := hq0_1.shape
  obtain ⟨Aq0_2, cq0_2, rfl, hcq0_2, hdq0_2, hq0_2⟩ := hq0_2.shape
  refine T.seq ?_
  refine T.region ?_
  refine R.asE rfl (by conv => lhs; whnf) ?_
  refine TL.nil (Post.thnN ?_)
  refine T.seq ?_
  refine T.region ?_
  refine R.ldXH (cs := [.int .i64 (q0.1), .slice Aq0_1 q0.2.1.length cq0_1, .slice Aq0_2 q0.2.2.length cq0_2]) (l := [.int .i64 (q0.1), .slice Aq0_1 q0.2.1.length cq0_1, .slice Aq0_2 q0.2.2.length cq0_2]) Tryd.isAgg25 Tryd.sizeOf25 rfl rfl hb0 rfl rfl ?_
  refine R.mvE rfl (by conv => lhs; whnf) ?_
  refine R.callv rfl rfl rfl (alloc_alive_c _ q0 _ hq0_1 _ hq0_2 (a1) (by first | omega | (simp; done) | (simp; omega) | (simp at *; omega)) (by first | omega | (simp; done) | (simp; omega) | (simp at *; omega))) ?_
  refine R.asE rfl (by conv => lhs; whnf) ?_
  refine TL.nil (Post.thnN ?_)
  refine T.has Has.nil ?_
  refine T.ret ?_
  have hM : alloc_Give_1_m q0 a0 a1 = (alloc_alive_m q0 a1) := by rw [alloc_Give_1_m]
  exact fin1L (v := .bool ((alloc_alive_m q0 a1))) [] rfl rfl (List.Sublist.refl _) ⟨rfl, by first | rw [hM] | rfl⟩

def alloc_Give_l2 (x7l1 : List Int) : Nat → Nat → ((List (Int × Bool)) × Int × (List (Int × Bool)) × (List Int)) → LR ((Int × (List (Int × Bool)) × (List Int)) × Int) ((List (Int × Bool)) × Int × (List (Int × Bool)) × (List Int))
  | 0, kl2, sl2 => .go ((sl2.1, sl2.2.1, sl2.2.2.1, sl2.2.2.2))
  | ml2 + 1, kl2, sl2 => LR.seq (if (((sortI x7l1)).getD kl2 (0 : Int)) ≤ 2 then true else (if (0 : Int) < (kl2 : Int) then ((decide ((((sortI x7l1)).getD ((((kl2 : Int) - 1)).toNat) (0 : Int)) = (((sortI x7l1)).getD kl2 (0 : Int))))) else false) : Bool) (fun sc3 => if sc3 = true then (.ret ((((0, [], []) : Int × (List (Int × Bool)) × (List Int)), 2))) else (if (alloc_usable_m (((sl2.2.2.1.getD ((((((sortI x7l1)).getD kl2 (0 : Int)) - 1)).toNat) (((0, false) : Int × Bool) : Int × Bool)).1, false))) = true then (alloc_Give_l2 x7l1 ml2 (kl2 + 1) ((sl2.1, sl2.2.1, (sl2.2.2.1.set ((((((sortI x7l1)).getD kl2 (0 : Int)) - 1)).toNat) (((sl2.2.2.1.getD ((((((sortI x7l1)).getD kl2 (0 : Int)) - 1)).toNat) (((0, false) : Int × Bool) : Int × Bool)).1, false))), (sl2.2.2.2 ++ [(((sortI x7l1)).getD kl2 (0 : Int))])))) else (alloc_Give_l2 x7l1 ml2 (kl2 + 1) ((sl2.1, sl2.2.1, (sl2.2.2.1.set ((((((sortI x7l1)).getD kl2 (0 : Int)) - 1)).toNat) (((sl2.2.2.1.getD ((((((sortI x7l1)).getD kl2 (0 : Int)) - 1)).toNat) (((0, false) : Int × Bool) : Int × Bool)).1, false))), sl2.2.2.2)))))
def alloc_Give_l1  : List Int → ((List Int)) → (List Int)
  | [], sl1 => sl1
  | yl1 :: ysl1, sl1 => LR.seq (ident_Parts_m yl1) (fun r34 => alloc_Give_l1 ysl1 ((sl1 ++ [r34.1])))
def alloc_Give_m (a0 : Int × (List (Int × Bool)) × (List Int)) (a1 : List Int) : (Int × (List (Int × Bool)) × (List Int)) × Int :=
  if ((alloc_Check_m a0) : Int) ≠ 0 then ((((0, [], []) : Int × (List (Int × Bool)) × (List Int)), (alloc_Check_m a0))) else (if (!(alloc_all_Id_m a1 ((fun z0 z1 => alloc_Give_1_m a0 z0 z1)))) = true then ((((0, [], []) : Int × (List (Int × Bool)) × (List Int)), 122)) else (LR.seq (alloc_Give_l1 a1 []) (fun ol1 => LR.seq (alloc_own_m a0) (fun r45 => LR.on (alloc_Give_l2 ol1 (ol1.length - 0) 0 ((r45.2.1, r45.1, r45.2.1, r45.2.2))) (fun r => r) (fun ol2 => ((ol2.2.1, ol2.2.2.1, ol2.2.2.2), 0))))))
set_option maxHeartbeats 3200000 in
theorem alloc_Give_c (H : Heap) {tG0 : TypeId} (hG0 : H 0 = some (.cells #[.int .i64 0, .bool true] tG0)) (a0 : Int × (List (Int × Bool)) × (List Int)) (va0_1 : Value) (ha0_1 : RdS slotE H va0_1 a0.2.1) (va0_2 : Value) (ha0_2 : RdS (intE .i64) H va0_2 a0.2.2) (va1 : Value) (a1 : List Int) (ha1 : RdS (intE .u64) H va1 a1) (hs : a0.2.1.length ≤ 2000000) (hf : a0.2.2.length ≤ 2000000) (hl : a1.length ≤ 2000000) : Fc Tryd.prog (fnv 21) [.agg #[.int .i64 a0.1, va0_1, va0_2], va1] H [] (fun v' H' L' => ∃ u0_1 u0_2 c0_1 c0_2, v' = .tuple #[.agg #[.int .i64 (alloc_Give_m a0 a1).1.1, u0_1, u0_2], .int .i64 (alloc_Give_m a0 a1).2] ∧ L' = [c0_1, c0_2] ∧ OwnS slotE 101 H' u0_1 (alloc_Give_m a0 a1).1.2.1 c0_1 ∧ OwnS (intE .i64) 3 H' u0_2 (alloc_Give_m a0 a1).1.2.2 c0_2) := by
  refine Fc.of_body (N := 89) Tryd.func21 rfl (by kernel_rfl) rfl rfl ?_
  intro w0
  obtain ⟨Aa0_1, ca0_1, rfl, hca0_1, hda0_1, ha0_1⟩ := ha0_1.shape
  obtain ⟨Aa0_2, ca0_2, rfl, hca0_2, hda0_2, ha0_2⟩ := ha0_2.shape
  obtain ⟨Aa1, ca1, rfl, hca1, hda1, ha1⟩ := ha1.shape
  refine T.seq ?_
  refine T.region ?_
  refine R.box rfl (by conv => lhs; whnf) ?_
  intro b2
  refine R.alloc Tryd.zeroValue25 rfl ?_
  intro b4
  refine R.asE rfl (by conv => lhs; whnf) ?_
  refine TL.nil (Post.thnN ?_)
  refine T.seq ?_
  refine T.seq ?_
  refine T.region ?_
  refine R.ldX (cs := [.int .i64 (a0.1), .slice Aa0_1 a0.2.1.length ca0_1, .slice Aa0_2 a0.2.2.length ca0_2]) (l := [.int .i64 (a0.1), .slice Aa0_1 a0.2.1.length ca0_1, .slice Aa0_2 a0.2.2.length ca0_2]) Tryd.isAgg25 Tryd.sizeOf25 rfl rfl (.tl .hd) rfl rfl ?_
  refine R.callv rfl rfl rfl (alloc_Check_c _ hG0 a0 _ ha0_1 _ ha0_2 (by first | omega | (simp; done) | (simp; omega) | (simp at *; omega)) (by first | omega | (simp; done) | (simp; omega) | (simp at *; omega))) ?_
  refine R.asE rfl (by conv => lhs; whnf) ?_
  refine TL.nil (Post.thnN ?_)
  refine T.seq ?_
  refine T.region ?_
  refine R.mvE rfl (by conv => lhs; whnf) ?_
  refine R.neq rfl rfl rfl ?_
  refine TL.nil (Post.thnN ?_)
  refine T.condD rfl (fun c18 => ?_) (fun c18 => ?_)
  · refine T.set 18 (.bool true) (congrArg Value.bool (decide_eq_true c18)) ?_
    refine T.seq ?_
    refine T.region ?_
    refine R.bld (cs := [.int .i64 0, .slice none 0 0, .slice none 0 0]) rfl (fun _ => by kernel_rfl) ?_
    refine R.mvE rfl (by conv => lhs; whnf) ?_
    refine R.stX (old := [.int .i64 0, .slice none 0 0, .slice none 0 0]) (l := [.int .i64 0, .slice none 0 0, .slice none 0 0]) (new := [.int .i64 0, .slice none 0 0, .slice none 0 0]) (et := 25) Tryd.sizeOf25 rfl rfl rfl rfl rfl (by show 0 + 3 ≤ 3; decide) rfl (all_one rfl) .hd ?_
    refine R.asE rfl (by conv => lhs; whnf) ?_
    refine TL.nil (Post.thnN ?_)
    refine T.has (Has.none (Has.none (Has.cons .hd Has.nil))) ?_
    refine T.ret (Post.thnR ?_)
    have hM : alloc_Give_m a0 a1 = (((0, [], []) : Int × (List (Int × Bool)) × (List Int)), (alloc_Check_m a0)) := by rw [alloc_Give_m, if_pos c18]
    exact finR2 (v := .agg #[.int .i64 0, .slice none 0 0, .slice none 0 0]) (v' := .int .i64 (alloc_Check_m a0)) [[], []] rfl (.cellA (cs := [.int .i64 0, .slice none 0 0, .slice none 0 0]) (l := [.int .i64 0, .slice none 0 0, .slice none 0 0]) Tryd.isAgg25 Tryd.sizeOf25 rfl (.tl (.tl .hd)) rfl rfl) (.tmp rfl) (List.sublist_append_left ([[], []] : Own) _) ⟨.slice none 0 0, .slice none 0 0, [], [], by first | rw [hM] | rfl, rfl, by rw [hM]; exact OwnS.nil, by rw [hM]; exact OwnS.nil⟩
  · refine T.set 18 (.bool false) (congrArg Value.bool (decide_eq_false c18)) ?_
    refine T.skip (Post.thnN ?_)
    refine T.seq ?_
    refine T.seq ?_
    refine T.region ?_
    refine R.mvE rfl (by conv => lhs; whnf) ?_
    refine R.mkf (cs := [_]) rfl rfl ?_
    refine R.callvB rfl rfl rfl (fun HB23 sB23 qB23 => by have fB23_b2 := shut1 (In.all (.tl .hd) qB23); exact (alloc_all_Id_c _ _ a1 (ha1.mono sB23) _ (fun z0 z1 => alloc_Give_1_m a0 z0 z1) (fun H2 h2 z0 z1 => alloc_Give_1_c H2 b2 a0 _ ((ha0_1.mono sB23).mono h2) _ ((ha0_2.mono sB23).mono h2) (h2 _ _ fB23_b2) z0 z1 (by first | omega | (simp; done) | (simp; omega) | (simp at *; omega)) (by first | omega | (simp; done) | (simp; omega) | (simp at *; omega))))) ?_
    refine R.not rfl rfl ?_
    refine TL.nil (Post.thnN ?_)
    refine T.cond rfl (fun c24 => ?_) (fun c24 => ?_)
    · refine T.set 24 (.bool true) (congrArg Value.bool c24) ?_
      refine T.seq ?_
      refine T.region ?_
      refine R.bld (cs := [.int .i64 0, .slice none 0 0, .slice none 0 0]) rfl (fun _ => by kernel_rfl) ?_
      refine R.stX (old := [.int .i64 0, .slice none 0 0, .slice none 0 0]) (l := [.int .i64 0, .slice none 0 0, .slice none 0 0]) (new := [.int .i64 0, .slice none 0 0, .slice none 0 0]) (et := 25) Tryd.sizeOf25 rfl rfl rfl rfl rfl (by show 0 + 3 ≤ 3; decide) rfl (all_one rfl) .hd ?_
      refine R.asE rfl (by conv => lhs; whnf) ?_
      refine TL.nil (Post.thnN ?_)
      refine T.has (Has.none (Has.none (Has.cons .hd Has.nil))) ?_
      refine T.ret (Post.thnR ?_)
      have hM : alloc_Give_m a0 a1 = (((0, [], []) : Int × (List (Int × Bool)) × (List Int)), 122) := by rw [alloc_Give_m, if_neg c18, if_t c24]
      exact finR2 (v := .agg #[.int .i64 0, .slice none 0 0, .slice none 0 0]) (v' := .int .i64 122) [[], []] rfl (.cellA (cs := [.int .i64 0, .slice none 0 0, .slice none 0 0]) (l := [.int .i64 0, .slice none 0 0, .slice none 0 0]) Tryd.isAgg25 Tryd.sizeOf25 rfl (.tl (.tl .hd)) rfl rfl) (.tmp rfl) (List.sublist_append_left ([[], []] : Own) _) ⟨.slice none 0 0, .slice none 0 0, [], [], by first | rw [hM] | rfl, rfl, by rw [hM]; exact OwnS.nil, by rw [hM]; exact OwnS.nil⟩
    · refine T.set 24 (.bool false) (congrArg Value.bool c24) ?_
      have hall : alloc_all_Id_m a1 (fun z0 z1 => alloc_Give_1_m a0 z0 z1) = true := by simpa using c24
      refine T.skip (Post.thnN ?_)
      refine T.seq ?_
      refine T.region ?_
      refine R.asE rfl (by conv => lhs; whnf) ?_
      refine TL.nil (Post.thnN ?_)
      refine T.seq ?_
      refine T.seq ?_
      refine T.region ?_
      refine R.mvE rfl (by conv => lhs; whnf) ?_
      refine R.len Tryd.underlying29 rfl rfl ?_
      refine R.mvE rfl (by conv => lhs; whnf) ?_
      refine TL.nil (Post.thnN ?_)
      refine T.block ?_
      refine T.loop (ι := Nat × Value × (List Int) × Chunk) (fun ⟨kl1, v7l1, x7l1, c7l1⟩ H' L' ds' => kl1 ≤ a1.length ∧ Has L' [[(b4, .cells #[.int .i64 0, .slice none 0 0, .slice none 0 0] 25)], [(b2, .cells #[.int .i64 (a0.1), .slice Aa0_1 a0.2.1.length ca0_1, .slice Aa0_2 a0.2.2.length ca0_2] 25)], c7l1] ∧ OwnS (intE .i64) 3 H' v7l1 x7l1 c7l1 ∧ x7l1.length ≤ kl1 ∧ (∀ x ∈ x7l1, 1 ≤ x ∧ x ≤ (a0.2.1.length : Int)) ∧ alloc_Give_l1 (a1.drop kl1) x7l1 = alloc_Give_l1 a1 []) (fun ⟨kl1, v7l1, x7l1, c7l1⟩ => [(28, .int .i64 (kl1 : Int)), (2, .pointer (some ⟨b2, 0, none⟩)), (4, .pointer (some ⟨b4, 0, none⟩)), (7, v7l1), (26, .slice Aa1 a1.length ca1), (27, .int .i64 (a1.length : Int))]) (fun ⟨kl1, v7l1, x7l1, c7l1⟩ => a1.length - kl1) (0, .slice none 0 0, [], []) ?_ ?_ ?_
      · exact ⟨(by omega), (Has.cons .hd (Has.cons .hd (Has.none Has.nil))), OwnS.nil, (by first | omega | simp | (intro x hx; cases hx)), (by first | omega | simp | (intro x hx; cases hx)), (by rfl)⟩
      · exact ⟨rfl, rfl, rfl, rfl, rfl, rfl, trivial⟩
      · intro ⟨kl1, v7l1, x7l1, c7l1⟩ σ_l1 H_l1 L_l1 ds_l1 s_l1 hI_l1
        obtain ⟨hkl1, hI_l1⟩ := hI_l1
        obtain ⟨hLl1, w7l1, hBl1_0, hBl1_1, hQl1⟩ := hI_l1
        obtain ⟨A7l1, p7l1, rfl, m7l1, n7l1_⟩ := OwnS.shape w7l1
        refine T.has hLl1 ?_
        refine T.seq ?_
        refine T.region ?_
        refine R.lss rfl rfl rfl ?_
        refine TL.nil (Post.thnN ?_)
        refine T.seq ?_
        refine T.condD rfl (fun c29 => ?_) (fun c29 => ?_)
        · have hltl1 : kl1 < a1.length := by omega
          obtain ⟨yl1, hyl1⟩ := getk (xs := a1) (k := kl1) (by omega)
          refine T.skip (Post.thnN ?_)
          refine T.seq ?_
          refine T.block ?_
          refine T.seq ?_
          refine T.region ?_
          obtain ⟨b30, o30, i30, k30⟩ := RdS.elem (ha1.mono s_l1) hyl1
          obtain ⟨l30, g30, k30⟩ := k30
          obtain rfl : l30 = [.int .u64 yl1] := g30
          refine R.ixp Tryd.underlying29 Tryd.sizeOf32 rfl rfl rfl (by omega) i30 ?_
          refine R.ldC Tryd.isAgg32 rfl rfl (k30 0 _ rfl) ?_
          refine R.asE rfl (by conv => lhs; whnf) ?_
          refine TL.nil (Post.thnN ?_)
          refine T.seq ?_
          refine T.region ?_
          refine R.mvE rfl (by conv => lhs; whnf) ?_
          obtain ⟨r34, er34⟩ : ∃ r, r = (ident_Parts_m yl1) := ⟨_, rfl⟩
          refine R.callv (v := .tuple #[.int .i64 r34.1, .int .i64 r34.2]) rfl rfl rfl (by rw [er34]; exact ident_Parts_c _ (yl1)) ?_
          refine R.mvE rfl (by conv => lhs; whnf) ?_
          refine R.ext rfl rfl rfl ?_
          refine R.ext rfl rfl rfl ?_
          refine R.asE rfl (by conv => lhs; whnf) ?_
          refine R.asE rfl (by conv => lhs; whnf) ?_
          refine TL.nil (Post.thnN ?_)
          refine T.region ?_
          refine R.mvE rfl (by conv => lhs; whnf) ?_
          refine R.mvE rfl (by conv => lhs; whnf) ?_
          refine R.bs rfl (run_buildSlice1 Tryd.underlying23 Tryd.sizeOf3 Tryd.zeroValue3 rfl rfl) ?_
          intro b39
          have w39 : OwnS (intE .i64) 3 H_l1 (.slice (some ⟨b39, 0, none⟩) 1 1) [r34.1] [(b39, .cells #[.int .i64 (r34.1)] 3)] := OwnS.lit (xs := [r34.1]) (cellsOf_cons (a := [.int .i64 (r34.1)]) rfl cellsOf_nil) (by show 1 ≤ maxLen; decide)
          obtain ⟨k40, y40, r40⟩ := Src.ownA w39
          refine R.app (E := (intE .i64)) (e := 3) (xs := x7l1) (ys := [r34.1]) Tryd_ty23 rfl rfl rfl w7l1 (.tl (.tl (.tl .hd))) (r40 _ .hd) y40 (by (try simp only [List.length_append, List.length_cons, List.length_nil, List.length_replicate, List.length_take, List.length_drop]); omega) (by (try simp only [List.length_append, List.length_cons, List.length_nil, List.length_replicate, List.length_take, List.length_drop]); omega) ?_
          intro v40 c40 w40
          obtain ⟨A40, p40, rfl, m40, n40⟩ := OwnS.shape w40
          refine TL.del (.tl .hd) ?_
          refine R.asE rfl (by conv => lhs; whnf) ?_
          refine TL.nil (Post.blkN ?_)
          refine id (Post.thnN ?_)
          refine T.region ?_
          refine R.addI rfl rfl rfl (by omega) ?_
          refine R.mvE rfl (by conv => lhs; whnf) ?_
          refine TL.nil (Post.thnN ?_)
          exact ⟨(kl1 + 1, .slice A40 (x7l1 ++ [r34.1]).length p40, (x7l1 ++ [r34.1]), c40), s_l1, ⟨(by omega), (Has.cons (.tl .hd) (Has.cons (.tl .hd) (Has.cons .hd Has.nil))), w40, (by first | omega | (simp only [List.length_append, List.length_cons, List.length_nil]; omega) | (intro x hx; rcases List.mem_append.1 hx with h | h; exact hBl1_1 x h; obtain rfl := List.mem_singleton.1 h; rw [er34]; exact alive_rng (all_id hall yl1 (List.mem_of_getElem? hyl1)))), (by first | omega | (simp only [List.length_append, List.length_cons, List.length_nil]; omega) | (intro x hx; rcases List.mem_append.1 hx with h | h; exact hBl1_1 x h; obtain rfl := List.mem_singleton.1 h; rw [er34]; exact alive_rng (all_id hall yl1 (List.mem_of_getElem? hyl1)))), (by subst er34; rw [← hQl1, drop_cons hyl1, alloc_Give_l1]; rw [LR.seq_go])⟩, by show a1.length - (kl1 + 1) < a1.length - kl1; omega, rfl, rfl, rfl, rfl, rfl, rfl, trivial⟩
        · refine T.exit (Post.thnE (Post.thnE (Post.blkX ?_)))
          have hEl1 : alloc_Give_l1 a1 [] = x7l1 := (hQl1.symm.trans (by rw [show kl1 = a1.length by omega, List.drop_length, alloc_Give_l1]))
          have hsx : ∀ x ∈ sortI x7l1, 1 ≤ x ∧ x ≤ (a0.2.1.length : Int) := fun x hx => hBl1_1 x ((sortI_perm _).mem_iff.1 hx)
          refine id (Post.thnN ?_)
          refine T.seq ?_
          refine T.region ?_
          refine R.mvE rfl (by conv => lhs; whnf) ?_
          refine TL.call [false, false, true] rfl rfl rfl (sortA_c _ _ _ _ w7l1 (by first | omega | (simp; done) | (simp; omega) | (simp at *; omega))) ?_
          intro v43 H43 L43 s43 q43
          obtain ⟨rfl, c43, rfl, w43⟩ := q43
          refine TL.nil (Post.thnN ?_)
          refine T.seq ?_
          refine T.region ?_
          refine R.ldX (cs := [.int .i64 (a0.1), .slice Aa0_1 a0.2.1.length ca0_1, .slice Aa0_2 a0.2.2.length ca0_2]) (l := [.int .i64 (a0.1), .slice Aa0_1 a0.2.1.length ca0_1, .slice Aa0_2 a0.2.2.length ca0_2]) Tryd.isAgg25 Tryd.sizeOf25 rfl rfl (.tl (.tl .hd)) rfl rfl ?_
          obtain ⟨r45, er45⟩ : ∃ r, r = (alloc_own_m a0) := ⟨_, rfl⟩
          refine TL.call [] rfl rfl rfl (alloc_own_c _ a0 _ (ha0_1.mono s_l1) _ (ha0_2.mono s_l1) (by first | omega | (simp; done) | (simp; omega) | (simp at *; omega)) (by first | omega | (simp; done) | (simp; omega) | (simp at *; omega))) ?_
          intro v45 H45 L45 s45 q45
          rw [← er45] at q45
          obtain ⟨u45_0_1, u45_0_2, c45_0_1, c45_0_2, rfl, rfl, w45_0_1, w45_0_2⟩ := q45
          obtain ⟨A45_0_1, p45_0_1, rfl, m45_0_1, n45_0_1⟩ := OwnS.shape w45_0_1
          obtain ⟨A45_0_2, p45_0_2, rfl, m45_0_2, n45_0_2⟩ := OwnS.shape w45_0_2
          have q45 := er45.trans (alloc_own_eq _)
          have ta45 := congrArg (fun q => q.2.1.length) q45
          have tb45 := congrArg (fun q => q.2.2.length) q45
          try dsimp only at ta45 tb45
          refine R.stX (old := [.int .i64 (a0.1), .slice Aa0_1 a0.2.1.length ca0_1, .slice Aa0_2 a0.2.2.length ca0_2]) (l := [.int .i64 (r45.1), .slice A45_0_1 r45.2.1.length p45_0_1, .slice A45_0_2 r45.2.2.length p45_0_2]) (new := [.int .i64 (r45.1), .slice A45_0_1 r45.2.1.length p45_0_1, .slice A45_0_2 r45.2.2.length p45_0_2]) (et := 25) Tryd.sizeOf25 rfl rfl rfl rfl rfl (by show 0 + 3 ≤ 3; decide) rfl (all_one rfl) (.tl (.tl (.tl (.tl .hd)))) ?_
          refine TL.nil (Post.thnN ?_)
          refine T.seq ?_
          refine T.seq ?_
          refine T.region ?_
          refine R.mvE rfl (by conv => lhs; whnf) ?_
          refine R.len Tryd.underlying23 rfl rfl ?_
          refine R.mvE rfl (by conv => lhs; whnf) ?_
          refine TL.nil (Post.thnN ?_)
          refine T.block ?_
          refine T.loop (ι := Nat × (List (Int × Bool)) × Chunk × Int × Value × (List (Int × Bool)) × Chunk × Value × (List Int) × Chunk) (fun ⟨kl2, xr45_0_1l2, cr45_0_1l2, nb2l2_0, vb2l2_1, xb2l2_1, cb2l2_1, vb2l2_2, xb2l2_2, cb2l2_2⟩ H' L' ds' => kl2 ≤ x7l1.length ∧ Has L' [c43, [(b4, .cells #[.int .i64 0, .slice none 0 0, .slice none 0 0] 25)], [(b2, .cells #[.int .i64 nb2l2_0, vb2l2_1, vb2l2_2] 25)], cb2l2_1, cb2l2_2] ∧ OwnS slotE 101 H' (.slice A45_0_1 r45.2.1.length p45_0_1) xr45_0_1l2 cr45_0_1l2 ∧ OwnS slotE 101 H' vb2l2_1 xb2l2_1 cb2l2_1 ∧ OwnS (intE .i64) 3 H' vb2l2_2 xb2l2_2 cb2l2_2 ∧ xb2l2_1.length = a0.2.1.length ∧ xb2l2_2.length ≤ a0.2.2.length + kl2 ∧ alloc_Give_l2 x7l1 (x7l1.length - kl2) kl2 ((xr45_0_1l2, nb2l2_0, xb2l2_1, xb2l2_2)) = alloc_Give_l2 x7l1 (x7l1.length - 0) 0 ((r45.2.1, r45.1, r45.2.1, r45.2.2))) (fun ⟨kl2, xr45_0_1l2, cr45_0_1l2, nb2l2_0, vb2l2_1, xb2l2_1, cb2l2_1, vb2l2_2, xb2l2_2, cb2l2_2⟩ => [(48, .int .i64 (kl2 : Int)), (2, .pointer (some ⟨b2, 0, none⟩)), (4, .pointer (some ⟨b4, 0, none⟩)), (7, .slice A7l1 x7l1.length p7l1), (46, .slice A7l1 x7l1.length p7l1), (47, .int .i64 (x7l1.length : Int))]) (fun ⟨kl2, xr45_0_1l2, cr45_0_1l2, nb2l2_0, vb2l2_1, xb2l2_1, cb2l2_1, vb2l2_2, xb2l2_2, cb2l2_2⟩ => x7l1.length - kl2) (0, r45.2.1, c45_0_1, r45.1, .slice A45_0_1 r45.2.1.length p45_0_1, r45.2.1, c45_0_1, .slice A45_0_2 r45.2.2.length p45_0_2, r45.2.2, c45_0_2) ?_ ?_ ?_
          · exact ⟨(by omega), (Has.cons (.tl (.tl .hd)) (Has.cons (.tl (.tl .hd)) (Has.cons (.tl (.tl .hd)) (Has.cons .hd (Has.cons .hd Has.nil))))), w45_0_1, w45_0_1, w45_0_2, (by first | omega | (simp; done) | (simp; omega) | (simp at *; omega)), (by first | omega | (simp; done) | (simp; omega) | (simp at *; omega)), (by rfl)⟩
          · exact ⟨rfl, rfl, rfl, rfl, rfl, rfl, trivial⟩
          · intro ⟨kl2, xr45_0_1l2, cr45_0_1l2, nb2l2_0, vb2l2_1, xb2l2_1, cb2l2_1, vb2l2_2, xb2l2_2, cb2l2_2⟩ σ_l2 H_l2 L_l2 ds_l2 s_l2 hI_l2
            obtain ⟨hkl2, hI_l2⟩ := hI_l2
            obtain ⟨hLl2, wr45_0_1l2, wb2l2_1, wb2l2_2, hBl2_0, hBl2_1, hQl2⟩ := hI_l2
            obtain ⟨Ab2l2_1, pb2l2_1, rfl, mb2l2_1, nb2l2_1_⟩ := OwnS.shape wb2l2_1
            obtain ⟨Ab2l2_2, pb2l2_2, rfl, mb2l2_2, nb2l2_2_⟩ := OwnS.shape wb2l2_2
            refine T.has hLl2 ?_
            refine T.seq ?_
            refine T.region ?_
            refine R.lss rfl rfl rfl ?_
            refine TL.nil (Post.thnN ?_)
            refine T.seq ?_
            refine T.condD rfl (fun c49 => ?_) (fun c49 => ?_)
            · have hltl2 : kl2 < x7l1.length := by omega
              refine T.skip (Post.thnN ?_)
              refine T.seq ?_
              refine T.block ?_
              refine T.seq ?_
              refine T.region ?_
              refine R.mvE rfl (by conv => lhs; whnf) ?_
              have hl51 : kl2 < x7l1.length := by first | omega | (simp; done) | (simp; omega) | (simp at *; omega)
              obtain ⟨y51, e51, h51⟩ : ∃ y, y = (((sortI x7l1)).getD kl2 (0 : Int)) ∧ ((sortI x7l1))[kl2]? = some y := ⟨_, rfl, getD_get (by first | exact hl51 | simpa using hl51 | (rw [(sortI_perm _).length_eq]; exact hl51))⟩
              obtain ⟨b51, u51, cs51, l51, f51, j51, i51, g51, k51⟩ := OwnS.elem (OwnS.mono w43 (s45.trans s_l2)) h51
              obtain rfl : l51 = [.int .i64 y51] := g51
              refine R.ixp (sz := ((intE .i64)).size) Tryd.underlying23 Tryd.sizeOf3 rfl rfl rfl (by first | omega | (simp; done) | (simp; omega) | (simp at *; omega)) i51 ?_
              refine R.ld Tryd.isAgg3 rfl rfl (by rw [← f51]; exact .hd) (k51 0 _ rfl) ?_
              refine R.asE rfl (by conv => lhs; whnf) ?_
              refine R.asE rfl (by conv => lhs; whnf) ?_
              refine TL.nil (Post.thnN ?_)
              refine T.seq ?_
              refine T.seq ?_
              refine T.cutK (ι := Bool) (fun b67c3 H' L' ds' => Has L' [c43, [(b4, .cells #[.int .i64 0, .slice none 0 0, .slice none 0 0] 25)], [(b2, .cells #[.int .i64 nb2l2_0, .slice Ab2l2_1 xb2l2_1.length pb2l2_1, .slice Ab2l2_2 xb2l2_2.length pb2l2_2] 25)], cb2l2_1, cb2l2_2] ∧ (if y51 ≤ 2 then true else (if (0 : Int) < (kl2 : Int) then ((decide ((((sortI x7l1)).getD ((((kl2 : Int) - 1)).toNat) (0 : Int)) = y51))) else false) : Bool) = b67c3) (fun b67c3 => [(2, .pointer (some ⟨b2, 0, none⟩)), (4, .pointer (some ⟨b4, 0, none⟩)), (7, .slice A7l1 x7l1.length p7l1), (13, .int .i64 y51), (46, .slice A7l1 x7l1.length p7l1), (47, .int .i64 (x7l1.length : Int)), (48, .int .i64 (kl2 : Int)), (67, .bool (b67c3))]) ?_ ?_
              · refine T.region ?_
                refine R.mvE rfl (by conv => lhs; whnf) ?_
                refine R.leq rfl rfl rfl ?_
                refine R.mvE rfl (by conv => lhs; whnf) ?_
                refine TL.gsplitD 55 rfl (fun g55 => ?_) (fun g55 => ?_)
                · refine TL.off rfl rfl rfl ?_
                  refine TL.off rfl rfl rfl ?_
                  refine TL.off rfl rfl rfl ?_
                  refine TL.offU rfl rfl ?_
                  refine TL.offU rfl rfl ?_
                  refine TL.offU rfl rfl ?_
                  refine TL.offU rfl rfl ?_
                  refine TL.offU rfl rfl ?_
                  refine TL.offU rfl rfl ?_
                  refine TL.offU rfl rfl ?_
                  refine TL.off rfl rfl rfl ?_
                  refine R.pkTE rfl rfl (by conv => lhs; whnf) ?_
                  refine TL.nil (Post.thnN ?_)
                  exact ⟨true, HLe.refl _, ⟨(Has.cons .hd (Has.cons .hd (Has.cons .hd (Has.cons .hd (Has.cons .hd Has.nil))))), (by rw [if_pos g55])⟩, rfl, rfl, rfl, rfl, rfl, rfl, rfl, rfl, trivial⟩
                · refine R.mvE rfl (by conv => lhs; whnf) ?_
                  refine R.gtr rfl rfl rfl ?_
                  refine R.mvE rfl (by conv => lhs; whnf) ?_
                  refine TL.gsplitD 58 rfl (fun g58 => ?_) (fun g58 => ?_)
                  · refine R.mvE rfl (by conv => lhs; whnf) ?_
                    refine R.mvE rfl (by conv => lhs; whnf) ?_
                    refine R.subI rfl rfl rfl (by omega) ?_
                    have hl62 : (((kl2 : Int) - 1)).toNat < x7l1.length := by first | omega | (simp; done) | (simp; omega) | (simp at *; omega)
                    obtain ⟨y62, e62, h62⟩ : ∃ y, y = (((sortI x7l1)).getD ((((kl2 : Int) - 1)).toNat) (0 : Int)) ∧ ((sortI x7l1))[(((kl2 : Int) - 1)).toNat]? = some y := ⟨_, rfl, getD_get (by first | exact hl62 | simpa using hl62 | (rw [(sortI_perm _).length_eq]; exact hl62))⟩
                    obtain ⟨b62, u62, cs62, l62, f62, j62, i62, g62, k62⟩ := OwnS.elem (OwnS.mono w43 (s45.trans s_l2)) h62
                    obtain rfl : l62 = [.int .i64 y62] := g62
                    refine R.ixp (sz := ((intE .i64)).size) Tryd.underlying23 Tryd.sizeOf3 rfl rfl rfl (by first | omega | (simp; done) | (simp; omega) | (simp at *; omega)) i62 ?_
                    refine R.ld Tryd.isAgg3 rfl rfl (by rw [← f62]; exact .hd) (k62 0 _ rfl) ?_
                    refine R.mvE rfl (by conv => lhs; whnf) ?_
                    refine R.eql rfl rfl rfl ?_
                    refine R.pkTE rfl rfl (by conv => lhs; whnf) ?_
                    refine R.pkFE rfl rfl (by conv => lhs; whnf) ?_
                    refine TL.nil (Post.thnN ?_)
                    exact ⟨(decide (y62 = y51)), HLe.refl _, ⟨(Has.cons .hd (Has.cons .hd (Has.cons .hd (Has.cons .hd (Has.cons .hd Has.nil))))), (by subst e62; rw [if_neg g55, if_pos g58])⟩, rfl, rfl, rfl, rfl, rfl, rfl, rfl, rfl, trivial⟩
                  · refine TL.off rfl rfl rfl ?_
                    refine TL.off rfl rfl rfl ?_
                    refine TL.off rfl rfl rfl ?_
                    refine TL.off rfl rfl rfl ?_
                    refine TL.off rfl rfl rfl ?_
                    refine TL.off rfl rfl rfl ?_
                    refine TL.off rfl rfl rfl ?_
                    refine R.pkFE rfl rfl (by conv => lhs; whnf) ?_
                    refine R.pkFE rfl rfl (by conv => lhs; whnf) ?_
                    refine TL.nil (Post.thnN ?_)
                    exact ⟨false, HLe.refl _, ⟨(Has.cons .hd (Has.cons .hd (Has.cons .hd (Has.cons .hd (Has.cons .hd Has.nil))))), (by rw [if_neg g55, if_neg g58])⟩, rfl, rfl, rfl, rfl, rfl, rfl, rfl, rfl, trivial⟩
              · intro b67c3 σ_c3 H_c3 L_c3 ds_c3 s_c3 hI_c3
                obtain ⟨hLc3, hTc3⟩ := hI_c3
                refine T.has hLc3 ?_
                refine T.cond rfl (fun c67 => ?_) (fun c67 => ?_)
                · refine T.set 67 (.bool true) (congrArg Value.bool c67) ?_
                  have hZ67 := hTc3.trans c67
                  try simp only [or_f, or_t, and_f, and_t, decide_eq_true_eq, decide_eq_false_iff_not, Bool.not_eq_true'] at hZ67
                  refine T.seq ?_
                  refine T.region ?_
                  refine R.bld (cs := [.int .i64 0, .slice none 0 0, .slice none 0 0]) rfl (fun _ => by kernel_rfl) ?_
                  refine R.stX (old := [.int .i64 0, .slice none 0 0, .slice none 0 0]) (l := [.int .i64 0, .slice none 0 0, .slice none 0 0]) (new := [.int .i64 0, .slice none 0 0, .slice none 0 0]) (et := 25) Tryd.sizeOf25 rfl rfl rfl rfl rfl (by show 0 + 3 ≤ 3; decide) rfl (all_one rfl) (.tl .hd) ?_
                  refine R.asE rfl (by conv => lhs; whnf) ?_
                  refine TL.nil (Post.thnN ?_)
                  refine T.has (Has.none (Has.none (Has.cons (.tl .hd) Has.nil))) ?_
                  refine T.ret (Post.thnR (Post.blkR (Post.thnR (Post.thnR (Post.blkR (Post.thnR ?_))))))
                  have hXl2 : alloc_Give_l2 x7l1 (x7l1.length - 0) 0 ((r45.2.1, r45.1, r45.2.1, r45.2.2)) = .ret ((((0, [], []) : Int × (List (Int × Bool)) × (List Int)), 2)) := by subst e51; rw [← hQl2, show x7l1.length - kl2 = (x7l1.length - (kl2 + 1)) + 1 by omega, alloc_Give_l2]; rw [hTc3, LR.seq_go, if_t c67]
                  have hM : alloc_Give_m a0 a1 = (((0, [], []) : Int × (List (Int × Bool)) × (List Int)), 2) := by subst er45; rw [alloc_Give_m, if_neg c18, if_f c24, hEl1, LR.seq_go, LR.seq_go, hXl2, LR.on_ret]
                  exact finR2 (v := .agg #[.int .i64 0, .slice none 0 0, .slice none 0 0]) (v' := .int .i64 2) [[], []] rfl (.cellA (cs := [.int .i64 0, .slice none 0 0, .slice none 0 0]) (l := [.int .i64 0, .slice none 0 0, .slice none 0 0]) Tryd.isAgg25 Tryd.sizeOf25 rfl (.tl (.tl .hd)) rfl rfl) (.tmp rfl) (List.sublist_append_left ([[], []] : Own) _) ⟨.slice none 0 0, .slice none 0 0, [], [], by first | rw [hM] | rfl, rfl, by rw [hM]; exact OwnS.nil, by rw [hM]; exact OwnS.nil⟩
                · refine T.set 67 (.bool false) (congrArg Value.bool c67) ?_
                  have hZ67 := hTc3.trans c67
                  try simp only [or_f, or_t, and_f, and_t, decide_eq_true_eq, decide_eq_false_iff_not, Bool.not_eq_true'] at hZ67
                  refine T.skip (Post.thnN ?_)
                  refine T.seq ?_
                  have hidx := hsx y51 (List.mem_of_getElem? h51)
                  refine T.region ?_
                  refine R.fldA Tryd.underlying25 rfl Tryd.sizeOf22 (by decide) rfl rfl ?_
                  refine R.ld Tryd.isAgg22 rfl rfl (.tl (.tl .hd)) rfl ?_
                  refine R.mvE rfl (by conv => lhs; whnf) ?_
                  refine R.subI rfl rfl rfl (by omega) ?_
                  have hl73 : ((y51 - 1)).toNat < xb2l2_1.length := by first | omega | (simp; done) | (simp; omega) | (simp at *; omega)
                  obtain ⟨y73, e73, h73⟩ : ∃ y, y = (xb2l2_1.getD (((y51 - 1)).toNat) (((0, false) : Int × Bool) : Int × Bool)) ∧ xb2l2_1[((y51 - 1)).toNat]? = some y := ⟨_, rfl, getD_get (by first | exact hl73 | simpa using hl73 | (rw [(sortI_perm _).length_eq]; exact hl73))⟩
                  obtain ⟨b73, u73, cs73, l73, f73, j73, i73, g73, k73⟩ := OwnS.elem (OwnS.mono wb2l2_1 s_c3) h73
                  obtain rfl : l73 = [.int .i64 (y73.1), .bool (y73.2)] := g73
                  refine R.ixp (sz := (slotE).size) Tryd.underlying22 Tryd.sizeOf101 rfl rfl rfl (by first | omega | (simp; done) | (simp; omega) | (simp at *; omega)) i73 ?_
                  refine R.asE rfl (by conv => lhs; whnf) ?_
                  refine TL.nil (Post.thnN ?_)
                  refine T.seq ?_
                  refine T.region ?_
                  refine R.mvE rfl (by conv => lhs; whnf) ?_
                  refine R.nilck rfl rfl ?_
                  refine R.fldA Tryd.underlying101 rfl Tryd.sizeOf4 (by decide) rfl rfl ?_
                  refine R.stEF (E := slotE) (e := 101) (v := (.slice Ab2l2_1 xb2l2_1.length pb2l2_1)) (m := [.bool false]) (o := 1) (y := y73) (y' := (y73.1, false)) (j := ((y51 - 1)).toNat) Tryd.sizeOf4 rfl (OwnS.mono wb2l2_1 s_c3) (.tl (.tl (.tl .hd))) i73 rfl rfl (cells1 rfl) (all_one rfl) h73 (by show 1 + 1 ≤ 2; decide) (fun l hl => by have e0 : l = [.int .i64 (y73.1), .bool (y73.2)] := hl; subst e0; exact rfl) ?_
                  intro cst11 wst11
                  refine TL.nil (Post.thnN ?_)
                  refine T.seq ?_
                  refine T.region ?_
                  refine R.mvE rfl (by conv => lhs; whnf) ?_
                  refine R.nilck rfl rfl ?_
                  obtain ⟨b79_12, u79_12, cs79_12, l79_12, f79_12, j79_12, i79_12, g79_12, k79_12⟩ := OwnS.elem wst11 (by rw [List.getElem?_set_self (by first | exact hl73 | simpa using hl73)])
                  obtain rfl : l79_12 = [.int .i64 (y73.1), .bool false] := g79_12
                  obtain rfl : b79_12 = b73 := by have h := j79_12.symm.trans j73; injection h with h1; injection h1 with h2; injection h2
                  refine R.ldAt (l := [.int .i64 (y73.1), .bool false]) Tryd.isAgg101 Tryd.sizeOf101 rfl rfl (by rw [← f79_12]; exact .hd) rfl (fun j u h => k79_12 j u h) ?_
                  refine R.callv rfl rfl rfl (alloc_usable_c _ ((y73.1, false))) ?_
                  refine TL.nil (Post.thnN ?_)
                  refine T.cond rfl (fun c80 => ?_) (fun c80 => ?_)
                  · refine T.set 80 (.bool true) (congrArg Value.bool c80) ?_
                    refine T.region ?_
                    refine R.fldA Tryd.underlying25 rfl Tryd.sizeOf23 (by decide) rfl rfl ?_
                    refine R.ld Tryd.isAgg23 rfl rfl (.tl (.tl (.tl .hd))) rfl ?_
                    refine R.mvE rfl (by conv => lhs; whnf) ?_
                    refine R.bs rfl (run_buildSlice1 Tryd.underlying23 Tryd.sizeOf3 Tryd.zeroValue3 rfl rfl) ?_
                    intro b84
                    have w84 : OwnS (intE .i64) 3 H_c3 (.slice (some ⟨b84, 0, none⟩) 1 1) [y51] [(b84, .cells #[.int .i64 y51] 3)] := OwnS.lit (xs := [y51]) (cellsOf_cons (a := [.int .i64 y51]) rfl cellsOf_nil) (by show 1 ≤ maxLen; decide)
                    obtain ⟨k85, y85, r85⟩ := Src.ownA w84
                    refine R.app (E := (intE .i64)) (e := 3) (xs := xb2l2_2) (ys := [y51]) Tryd_ty23 rfl rfl rfl (OwnS.mono wb2l2_2 s_c3) (.tl (.tl (.tl (.tl (.tl .hd))))) (r85 _ .hd) y85 (by (try simp only [List.length_append, List.length_cons, List.length_nil, List.length_replicate, List.length_take, List.length_drop]); omega) (by (try simp only [List.length_append, List.length_cons, List.length_nil, List.length_replicate, List.length_take, List.length_drop]); omega) ?_
                    intro v85 c85 w85
                    obtain ⟨A85, p85, rfl, m85, n85⟩ := OwnS.shape w85
                    refine TL.del (.tl .hd) ?_
                    refine R.fldA Tryd.underlying25 rfl Tryd.sizeOf23 (by decide) rfl rfl ?_
                    refine R.stX (old := [.int .i64 nb2l2_0, .slice Ab2l2_1 xb2l2_1.length pb2l2_1, .slice Ab2l2_2 xb2l2_2.length pb2l2_2]) (l := [.slice A85 (xb2l2_2 ++ [y51]).length p85]) (new := [.int .i64 nb2l2_0, .slice Ab2l2_1 xb2l2_1.length pb2l2_1, .slice A85 (xb2l2_2 ++ [y51]).length p85]) (et := 25) Tryd.sizeOf23 rfl rfl rfl (cells1 rfl) rfl (by show 2 + 1 ≤ 3; decide) rfl (all_one rfl) (.tl (.tl (.tl (.tl .hd)))) ?_
                    refine TL.nil (Post.blkN ?_)
                    refine id (Post.thnN ?_)
                    refine T.region ?_
                    refine R.addI rfl rfl rfl (by omega) ?_
                    refine R.mvE rfl (by conv => lhs; whnf) ?_
                    refine TL.nil (Post.thnN ?_)
                    exact ⟨(kl2 + 1, xr45_0_1l2, cr45_0_1l2, nb2l2_0, .slice Ab2l2_1 xb2l2_1.length pb2l2_1, (xb2l2_1.set (((y51 - 1)).toNat) ((y73.1, false))), cst11, .slice A85 (xb2l2_2 ++ [y51]).length p85, (xb2l2_2 ++ [y51]), c85), (s_l2.trans s_c3), ⟨(by omega), (Has.cons (.tl (.tl .hd)) (Has.cons (.tl (.tl .hd)) (Has.cons (.tl (.tl .hd)) (Has.cons (.tl .hd) (Has.cons .hd Has.nil))))), (OwnS.mono wr45_0_1l2 s_c3), wst11, w85, (by first | omega | (simp; done) | (simp; omega) | (simp at *; omega)), (by first | omega | (simp; done) | (simp; omega) | (simp at *; omega)), (by subst e73; subst e51; rw [← hQl2, show x7l1.length - kl2 = (x7l1.length - (kl2 + 1)) + 1 by omega, alloc_Give_l2]; rw [hTc3, LR.seq_go, if_f c67, if_t c80])⟩, by show x7l1.length - (kl2 + 1) < x7l1.length - kl2; omega, rfl, rfl, rfl, rfl, rfl, rfl, trivial⟩
                  · refine T.set 80 (.bool false) (congrArg Value.bool c80) ?_
                    refine T.skip (Post.blkN ?_)
                    refine id (Post.thnN ?_)
                    refine T.region ?_
                    refine R.addI rfl rfl rfl (by omega) ?_
                    refine R.mvE rfl (by conv => lhs; whnf) ?_
                    refine TL.nil (Post.thnN ?_)
                    exact ⟨(kl2 + 1, xr45_0_1l2, cr45_0_1l2, nb2l2_0, .slice Ab2l2_1 xb2l2_1.length pb2l2_1, (xb2l2_1.set (((y51 - 1)).toNat) ((y73.1, false))), cst11, .slice Ab2l2_2 xb2l2_2.length pb2l2_2, xb2l2_2, cb2l2_2), (s_l2.trans s_c3), ⟨(by omega), (Has.cons (.tl .hd) (Has.cons (.tl .hd) (Has.cons (.tl .hd) (Has.cons .hd (Has.cons .hd Has.nil))))), (OwnS.mono wr45_0_1l2 s_c3), wst11, (OwnS.mono wb2l2_2 s_c3), (by first | omega | (simp; done) | (simp; omega) | (simp at *; omega)), (by first | omega | (simp; done) | (simp; omega) | (simp at *; omega)), (by subst e73; subst e51; rw [← hQl2, show x7l1.length - kl2 = (x7l1.length - (kl2 + 1)) + 1 by omega, alloc_Give_l2]; rw [hTc3, LR.seq_go, if_f c67, if_f c80])⟩, by show x7l1.length - (kl2 + 1) < x7l1.length - kl2; omega, rfl, rfl, rfl, rfl, rfl, rfl, trivial⟩
            · refine T.exit (Post.thnE (Post.thnE (Post.blkX ?_)))
              have hEl2 : alloc_Give_l2 x7l1 (x7l1.length - 0) 0 ((r45.2.1, r45.1, r45.2.1, r45.2.2)) = .go ((xr45_0_1l2, nb2l2_0, xb2l2_1, xb2l2_2)) := (hQl2.symm.trans (by rw [show kl2 = x7l1.length by omega, Nat.sub_self, alloc_Give_l2]))
              refine id (Post.thnN ?_)
              refine T.seq ?_
              refine T.region ?_
              refine R.ldX (cs := [.int .i64 nb2l2_0, .slice Ab2l2_1 xb2l2_1.length pb2l2_1, .slice Ab2l2_2 xb2l2_2.length pb2l2_2]) (l := [.int .i64 nb2l2_0, .slice Ab2l2_1 xb2l2_1.length pb2l2_1, .slice Ab2l2_2 xb2l2_2.length pb2l2_2]) Tryd.isAgg25 Tryd.sizeOf25 rfl rfl (.tl (.tl .hd)) rfl rfl ?_
              refine R.stX (old := [.int .i64 0, .slice none 0 0, .slice none 0 0]) (l := [.int .i64 nb2l2_0, .slice Ab2l2_1 xb2l2_1.length pb2l2_1, .slice Ab2l2_2 xb2l2_2.length pb2l2_2]) (new := [.int .i64 nb2l2_0, .slice Ab2l2_1 xb2l2_1.length pb2l2_1, .slice Ab2l2_2 xb2l2_2.length pb2l2_2]) (et := 25) Tryd.sizeOf25 rfl rfl rfl rfl rfl (by show 0 + 3 ≤ 3; decide) rfl (all_one rfl) (.tl .hd) ?_
              refine R.asE rfl (by conv => lhs; whnf) ?_
              refine TL.nil (Post.thnN ?_)
              refine T.has (Has.cons (.tl (.tl (.tl .hd))) (Has.cons (.tl (.tl (.tl .hd))) (Has.cons (.tl .hd) Has.nil))) ?_
              refine T.ret ?_
              have hM : alloc_Give_m a0 a1 = ((nb2l2_0, xb2l2_1, xb2l2_2), 0) := by subst er45; rw [alloc_Give_m, if_neg c18, if_f c24, hEl1, LR.seq_go, LR.seq_go, hEl2, LR.on_go]
              exact finR2 (v := .agg #[.int .i64 nb2l2_0, .slice Ab2l2_1 xb2l2_1.length pb2l2_1, .slice Ab2l2_2 xb2l2_2.length pb2l2_2]) (v' := .int .i64 0) [cb2l2_1, cb2l2_2] rfl (.cellA (cs := [.int .i64 nb2l2_0, .slice Ab2l2_1 xb2l2_1.length pb2l2_1, .slice Ab2l2_2 xb2l2_2.length pb2l2_2]) (l := [.int .i64 nb2l2_0, .slice Ab2l2_1 xb2l2_1.length pb2l2_1, .slice Ab2l2_2 xb2l2_2.length pb2l2_2]) Tryd.isAgg25 Tryd.sizeOf25 rfl (.tl (.tl .hd)) rfl rfl) (.tmp rfl) (List.sublist_append_left ([cb2l2_1, cb2l2_2] : Own) _) ⟨.slice Ab2l2_1 xb2l2_1.length pb2l2_1, .slice Ab2l2_2 xb2l2_2.length pb2l2_2, cb2l2_1, cb2l2_2, by first | rw [hM] | rfl, rfl, by rw [hM]; exact wb2l2_1, by rw [hM]; exact wb2l2_2⟩

end Go.SX

set_option linter.unusedVariables false
set_option linter.unusedSimpArgs false
namespace Go.SX
open Go Go.Proofs

def alloc_Take_m (a0 : Int × (List (Int × Bool)) × (List Int)) : (Int × (List (Int × Bool)) × (List Int)) × Int × Int :=
  if ((alloc_Check_m a0) : Int) ≠ 0 then ((((0, [], []) : Int × (List (Int × Bool)) × (List Int)), 0, (alloc_Check_m a0))) else (LR.seq ((decide (((alloc_many_m a0) : Int) = a0.1)) : Bool) (fun sc1 => if sc1 = true then ((((0, [], []) : Int × (List (Int × Bool)) × (List Int)), 0, 6)) else (LR.seq (alloc_own_m a0) (fun r23 => LR.seq ((((r23.2.1.length : Int) + 1), (r23.2.2.length : Int)) : Int × Int) (fun sc2 => LR.on (if (0 : Int) < sc2.2 then (.go (((r23.2.2.getD (((sc2.2 - 1)).toNat) (0 : Int)), (r23.2.1.set ((((r23.2.2.getD (((sc2.2 - 1)).toNat) (0 : Int)) - 1)).toNat) (((IntKind.i64.wrap ((r23.2.1.getD ((((r23.2.2.getD (((sc2.2 - 1)).toNat) (0 : Int)) - 1)).toNat) (((0, false) : Int × Bool) : Int × Bool)).1 + 1)), true))), r23.1, (r23.2.1.set ((((r23.2.2.getD (((sc2.2 - 1)).toNat) (0 : Int)) - 1)).toNat) (((IntKind.i64.wrap ((r23.2.1.getD ((((r23.2.2.getD (((sc2.2 - 1)).toNat) (0 : Int)) - 1)).toNat) (((0, false) : Int × Bool) : Int × Bool)).1 + 1)), true))), (r23.2.2.take (((sc2.2 - 1)).toNat))))) else (if ((IntKind.i64.wrap (r23.1 + 2)) : Int) < sc2.1 then (.ret ((((0, [], []) : Int × (List (Int × Bool)) × (List Int)), 0, 121))) else (.go ((sc2.1, r23.2.1, r23.1, (r23.2.1 ++ [((0, true) : Int × Bool)]), r23.2.2)))) : LR ((Int × (List (Int × Bool)) × (List Int)) × Int × Int) (Int × (List (Int × Bool)) × Int × (List (Int × Bool)) × (List Int))) (fun r => r) (fun sc3 => LR.seq (ident_Entity_m sc3.1 (sc3.2.2.2.1.getD (((sc3.1 - 1)).toNat) (((0, false) : Int × Bool) : Int × Bool)).1) (fun r84 => ((sc3.2.2.1, sc3.2.2.2.1, sc3.2.2.2.2), r84.1, r84.2))))))))
set_option maxHeartbeats 3200000 in
theorem alloc_Take_c (H : Heap) {tG0 : TypeId} (hG0 : H 0 = some (.cells #[.int .i64 0, .bool true] tG0)) (a0 : Int × (List (Int × Bool)) × (List Int)) (va0_1 : Value) (ha0_1 : RdS slotE H va0_1 a0.2.1) (va0_2 : Value) (ha0_2 : RdS (intE .i64) H va0_2 a0.2.2) (hs : a0.2.1.length ≤ 2000000) (hf : a0.2.2.length ≤ 2000000) : Fc Tryd.prog (fnv 16) [.agg #[.int .i64 a0.1, va0_1, va0_2]] H [] (fun v' H' L' => ∃ u0_1 u0_2 c0_1 c0_2, v' = .tuple #[.agg #[.int .i64 (alloc_Take_m a0).1.1, u0_1, u0_2], .int .u64 (alloc_Take_m a0).2.1, .int .i64 (alloc_Take_m a0).2.2] ∧ L' = [c0_1, c0_2] ∧ OwnS slotE 101 H' u0_1 (alloc_Take_m a0).1.2.1 c0_1 ∧ OwnS (intE .i64) 3 H' u0_2 (alloc_Take_m a0).1.2.2 c0_2) := by
  refine Fc.of_body (N := 90) Tryd.func16 rfl (by kernel_rfl) rfl rfl ?_
  intro w0
  obtain ⟨Aa0_1, ca0_1, rfl, hca0_1, hda0_1, ha0_1⟩ := ha0_1.shape
  obtain ⟨Aa0_2, ca0_2, rfl, hca0_2, hda0_2, ha0_2⟩ := ha0_2.shape
  refine T.seq ?_
  refine T.region ?_
  refine R.box rfl (by conv => lhs; whnf) ?_
  intro b1
  refine R.alloc Tryd.zeroValue25 rfl ?_
  intro b2
  refine R.asE rfl (by conv => lhs; whnf) ?_
  refine R.asE rfl (by conv => lhs; whnf) ?_
  refine TL.nil (Post.thnN ?_)
  refine T.seq ?_
  refine T.seq ?_
  refine T.region ?_
  refine R.ldX (cs := [.int .i64 (a0.1), .slice Aa0_1 a0.2.1.length ca0_1, .slice Aa0_2 a0.2.2.length ca0_2]) (l := [.int .i64 (a0.1), .slice Aa0_1 a0.2.1.length ca0_1, .slice Aa0_2 a0.2.2.length ca0_2]) Tryd.isAgg25 Tryd.sizeOf25 rfl rfl (.tl .hd) rfl rfl ?_
  refine R.callv rfl rfl rfl (alloc_Check_c _ hG0 a0 _ ha0_1 _ ha0_2 (by first | omega | (simp; done) | (simp; omega) | (simp at *; omega)) (by first | omega | (simp; done) | (simp; omega) | (simp at *; omega))) ?_
  refine R.asE rfl (by conv => lhs; whnf) ?_
  refine TL.nil (Post.thnN ?_)
  refine T.seq ?_
  refine T.region ?_
  refine R.mvE rfl (by conv => lhs; whnf) ?_
  refine R.neq rfl rfl rfl ?_
  refine TL.nil (Post.thnN ?_)
  refine T.condD rfl (fun c13 => ?_) (fun c13 => ?_)
  · refine T.set 13 (.bool true) (congrArg Value.bool (decide_eq_true c13)) ?_
    refine T.seq ?_
    refine T.region ?_
    refine R.bld (cs := [.int .i64 0, .slice none 0 0, .slice none 0 0]) rfl (fun _ => by kernel_rfl) ?_
    refine R.mvE rfl (by conv => lhs; whnf) ?_
    refine R.stX (old := [.int .i64 0, .slice none 0 0, .slice none 0 0]) (l := [.int .i64 0, .slice none 0 0, .slice none 0 0]) (new := [.int .i64 0, .slice none 0 0, .slice none 0 0]) (et := 25) Tryd.sizeOf25 rfl rfl rfl rfl rfl (by show 0 + 3 ≤ 3; decide) rfl (all_one rfl) .hd ?_
    refine R.asE rfl (by conv => lhs; whnf) ?_
    refine R.asE rfl (by conv => lhs; whnf) ?_
    refine TL.nil (Post.thnN ?_)
    refine T.has (Has.none (Has.none (Has.cons .hd Has.nil))) ?_
    refine T.ret (Post.thnR ?_)
    have hM : alloc_Take_m a0 = (((0, [], []) : Int × (List (Int × Bool)) × (List Int)), 0, (alloc_Check_m a0)) := by rw [alloc_Take_m, if_pos c13]
    exact finR3 (v := .agg #[.int .i64 0, .slice none 0 0, .slice none 0 0]) (v' := .int .u64 0) (v'' := .int .i64 (alloc_Check_m a0)) [[], []] rfl (.cellA (cs := [.int .i64 0, .slice none 0 0, .slice none 0 0]) (l := [.int .i64 0, .slice none 0 0, .slice none 0 0]) Tryd.isAgg25 Tryd.sizeOf25 rfl (.tl (.tl .hd)) rfl rfl) (.tmp rfl) (.tmp rfl) (List.sublist_append_left ([[], []] : Own) _) ⟨.slice none 0 0, .slice none 0 0, [], [], by first | rw [hM] | rfl, rfl, by rw [hM]; exact OwnS.nil, by rw [hM]; exact OwnS.nil⟩
  · refine T.set 13 (.bool false) (congrArg Value.bool (decide_eq_false c13)) ?_
    have hck := (check_iff hs).1.1 (by omega)
    have hfl := hck.flen
    have hn2 := hck.n2
    have hm2 := hck.m2
    refine T.skip (Post.thnN ?_)
    refine T.seq ?_
    refine T.seq ?_
    refine T.cutK (ι := Bool) (fun b20c1 H' L' ds' => Has L' [[(b2, .cells #[.int .i64 0, .slice none 0 0, .slice none 0 0] 25)], [(b1, .cells #[.int .i64 (a0.1), .slice Aa0_1 a0.2.1.length ca0_1, .slice Aa0_2 a0.2.2.length ca0_2] 25)]] ∧ ((decide (((alloc_many_m a0) : Int) = a0.1)) : Bool) = b20c1) (fun b20c1 => [(1, .pointer (some ⟨b1, 0, none⟩)), (2, .pointer (some ⟨b2, 0, none⟩)), (20, .bool (b20c1))]) ?_ ?_
    · refine T.draw Tryd_mixed (by kernel_rfl) ?_
      refine Plan.v 2 [0, 1, 3, 4] (by kernel_rfl) (by kernel_rfl) (by kernel_rfl) (by kernel_rfl) rfl (fun _ _ h_ => R.fldA Tryd.underlying25 rfl Tryd.sizeOf3 (by decide) rfl rfl (TL.nil h_)) ?_
      refine Plan.s2 0 3 [1, 3, 4] [0, 1, 4] (by kernel_rfl) (by kernel_rfl) (by kernel_rfl) rfl rfl ?_ ?_
      · refine R.ldX (cs := [.int .i64 (a0.1), .slice Aa0_1 a0.2.1.length ca0_1, .slice Aa0_2 a0.2.2.length ca0_2]) (l := [.int .i64 (a0.1), .slice Aa0_1 a0.2.1.length ca0_1, .slice Aa0_2 a0.2.2.length ca0_2]) Tryd.isAgg25 Tryd.sizeOf25 rfl rfl (.tl .hd) rfl rfl ?_
        refine TL.nil (Plan.e1 (HLe.refl _) ?_)
        refine Plan.v 1 [3, 4] (by kernel_rfl) (by kernel_rfl) (by kernel_rfl) (by kernel_rfl) rfl (fun _ _ h_ => R.callv rfl rfl rfl (alloc_many_c _ a0 _ ha0_1 _ ha0_2) (TL.nil h_)) ?_
        refine Plan.s1 3 [4] (by kernel_rfl) (by kernel_rfl) rfl ?_
        refine R.ld Tryd.isAgg3 rfl rfl (.tl .hd) rfl ?_
        refine TL.nil (Plan.e1 (HLe.refl _) ?_)
        refine Plan.v 4 [] (by kernel_rfl) (by kernel_rfl) (by kernel_rfl) (by kernel_rfl) rfl (fun _ _ h_ => R.eql rfl rfl rfl (TL.nil h_)) ?_
        refine Plan.done (Post.thnN ?_)
        exact ⟨(decide (((alloc_many_m a0) : Int) = a0.1)), HLe.refl _, ⟨(Has.cons .hd (Has.cons .hd Has.nil)), (by rfl)⟩, rfl, rfl, rfl, trivial⟩
      · refine R.ld Tryd.isAgg3 rfl rfl (.tl .hd) rfl ?_
        refine TL.nil (Plan.e1 (HLe.refl _) ?_)
        refine Plan.s1 0 [1, 4] (by kernel_rfl) (by kernel_rfl) rfl ?_
        refine R.ldX (cs := [.int .i64 (a0.1), .slice Aa0_1 a0.2.1.length ca0_1, .slice Aa0_2 a0.2.2.length ca0_2]) (l := [.int .i64 (a0.1), .slice Aa0_1 a0.2.1.length ca0_1, .slice Aa0_2 a0.2.2.length ca0_2]) Tryd.isAgg25 Tryd.sizeOf25 rfl rfl (.tl .hd) rfl rfl ?_
        refine TL.nil (Plan.e1 (HLe.refl _) ?_)
        refine Plan.v 1 [4] (by kernel_rfl) (by kernel_rfl) (by kernel_rfl) (by kernel_rfl) rfl (fun _ _ h_ => R.callv rfl rfl rfl (alloc_many_c _ a0 _ ha0_1 _ ha0_2) (TL.nil h_)) ?_
        refine Plan.v 4 [] (by kernel_rfl) (by kernel_rfl) (by kernel_rfl) (by kernel_rfl) rfl (fun _ _ h_ => R.eql rfl rfl rfl (TL.nil h_)) ?_
        refine Plan.done (Post.thnN ?_)
        exact ⟨(decide (((alloc_many_m a0) : Int) = a0.1)), HLe.refl _, ⟨(Has.cons .hd (Has.cons .hd Has.nil)), (by rfl)⟩, rfl, rfl, rfl, trivial⟩
    · intro b20c1 σ_c1 H_c1 L_c1 ds_c1 s_c1 hI_c1
      obtain ⟨hLc1, hTc1⟩ := hI_c1
      refine T.has hLc1 ?_
      refine T.cond rfl (fun c20 => ?_) (fun c20 => ?_)
      · refine T.set 20 (.bool true) (congrArg Value.bool c20) ?_
        have hZ20 := hTc1.trans c20
        try simp only [or_f, or_t, and_f, and_t, decide_eq_true_eq, decide_eq_false_iff_not, Bool.not_eq_true'] at hZ20
        refine T.seq ?_
        refine T.region ?_
        refine R.bld (cs := [.int .i64 0, .slice none 0 0, .slice none 0 0]) rfl (fun _ => by kernel_rfl) ?_
        refine R.stX (old := [.int .i64 0, .slice none 0 0, .slice none 0 0]) (l := [.int .i64 0, .slice none 0 0, .slice none 0 0]) (new := [.int .i64 0, .slice none 0 0, .slice none 0 0]) (et := 25) Tryd.sizeOf25 rfl rfl rfl rfl rfl (by show 0 + 3 ≤ 3; decide) rfl (all_one rfl) .hd ?_
        refine R.asE rfl (by conv => lhs; whnf) ?_
        refine R.asE rfl (by conv => lhs; whnf) ?_
        refine TL.nil (Post.thnN ?_)
        refine T.has (Has.none (Has.none (Has.cons .hd Has.nil))) ?_
        refine T.ret (Post.thnR ?_)
        have hM : alloc_Take_m a0 = (((0, [], []) : Int × (List (Int × Bool)) × (List Int)), 0, 6) := by rw [alloc_Take_m, if_neg c13, hTc1, LR.seq_go, if_t c20]
        exact finR3 (v := .agg #[.int .i64 0, .slice none 0 0, .slice none 0 0]) (v' := .int .u64 0) (v'' := .int .i64 6) [[], []] rfl (.cellA (cs := [.int .i64 0, .slice none 0 0, .slice none 0 0]) (l := [.int .i64 0, .slice none 0 0, .slice none 0 0]) Tryd.isAgg25 Tryd.sizeOf25 rfl (.tl (.tl .hd)) rfl rfl) (.tmp rfl) (.tmp rfl) (List.sublist_append_left ([[], []] : Own) _) ⟨.slice none 0 0, .slice none 0 0, [], [], by first | rw [hM] | rfl, rfl, by rw [hM]; exact OwnS.nil, by rw [hM]; exact OwnS.nil⟩
      · refine T.set 20 (.bool false) (congrArg Value.bool c20) ?_
        have hZ20 := hTc1.trans c20
        try simp only [or_f, or_t, and_f, and_t, decide_eq_true_eq, decide_eq_false_iff_not, Bool.not_eq_true'] at hZ20
        refine T.skip (Post.thnN ?_)
        refine T.seq ?_
        refine T.region ?_
        refine R.ldX (cs := [.int .i64 (a0.1), .slice Aa0_1 a0.2.1.length ca0_1, .slice Aa0_2 a0.2.2.length ca0_2]) (l := [.int .i64 (a0.1), .slice Aa0_1 a0.2.1.length ca0_1, .slice Aa0_2 a0.2.2.length ca0_2]) Tryd.isAgg25 Tryd.sizeOf25 rfl rfl (.tl .hd) rfl rfl ?_
        obtain ⟨r23, er23⟩ : ∃ r, r = (alloc_own_m a0) := ⟨_, rfl⟩
        refine TL.call [] rfl rfl rfl (alloc_own_c _ a0 _ (ha0_1.mono s_c1) _ (ha0_2.mono s_c1) (by first | omega | (simp; done) | (simp; omega) | (simp at *; omega)) (by first | omega | (simp; done) | (simp; omega) | (simp at *; omega))) ?_
        intro v23 H23 L23 s23 q23
        rw [← er23] at q23
        obtain ⟨u23_0_1, u23_0_2, c23_0_1, c23_0_2, rfl, rfl, w23_0_1, w23_0_2⟩ := q23
        obtain ⟨A23_0_1, p23_0_1, rfl, m23_0_1, n23_0_1⟩ := OwnS.shape w23_0_1
        obtain ⟨A23_0_2, p23_0_2, rfl, m23_0_2, n23_0_2⟩ := OwnS.shape w23_0_2
        have q23 := er23.trans (alloc_own_eq _)
        have ta23 := congrArg (fun q => q.2.1.length) q23
        have tb23 := congrArg (fun q => q.2.2.length) q23
        try dsimp only at ta23 tb23
        refine R.stX (old := [.int .i64 (a0.1), .slice Aa0_1 a0.2.1.length ca0_1, .slice Aa0_2 a0.2.2.length ca0_2]) (l := [.int .i64 (r23.1), .slice A23_0_1 r23.2.1.length p23_0_1, .slice A23_0_2 r23.2.2.length p23_0_2]) (new := [.int .i64 (r23.1), .slice A23_0_1 r23.2.1.length p23_0_1, .slice A23_0_2 r23.2.2.length p23_0_2]) (et := 25) Tryd.sizeOf25 rfl rfl rfl rfl rfl (by show 0 + 3 ≤ 3; decide) rfl (all_one rfl) (.tl (.tl (.tl .hd))) ?_
        refine TL.nil (Post.thnN ?_)
        refine T.seq ?_
        refine T.cutK (ι := Int × Int) (fun ⟨n6c2, n7c2⟩ H' L' ds' => Has L' [c23_0_1, c23_0_2, [(b2, .cells #[.int .i64 0, .slice none 0 0, .slice none 0 0] 25)], [(b1, .cells #[.int .i64 (r23.1), .slice A23_0_1 r23.2.1.length p23_0_1, .slice A23_0_2 r23.2.2.length p23_0_2] 25)]] ∧ n6c2 = (r23.2.1.length : Int) + 1 ∧ n7c2 = (r23.2.2.length : Int) ∧ ((((r23.2.1.length : Int) + 1), (r23.2.2.length : Int)) : Int × Int) = (n6c2, n7c2)) (fun ⟨n6c2, n7c2⟩ => [(1, .pointer (some ⟨b1, 0, none⟩)), (2, .pointer (some ⟨b2, 0, none⟩)), (6, .int .i64 n6c2), (7, .int .i64 n7c2)]) ?_ ?_
        · refine T.draw Tryd_mixed (by kernel_rfl) ?_
          refine Plan.v 0 [1, 2, 3, 4, 5, 6, 7, 8] (by kernel_rfl) (by kernel_rfl) (by kernel_rfl) (by kernel_rfl) rfl (fun _ _ h_ => R.fldA Tryd.underlying25 rfl Tryd.sizeOf22 (by decide) rfl rfl (TL.nil h_)) ?_
          refine Plan.v 4 [1, 2, 3, 5, 6, 7, 8] (by kernel_rfl) (by kernel_rfl) (by kernel_rfl) (by kernel_rfl) rfl (fun _ _ h_ => R.fldA Tryd.underlying25 rfl Tryd.sizeOf23 (by decide) rfl rfl (TL.nil h_)) ?_
          refine Plan.s2 1 5 [2, 3, 5, 6, 7, 8] [1, 2, 3, 6, 7, 8] (by kernel_rfl) (by kernel_rfl) (by kernel_rfl) rfl rfl ?_ ?_
          · refine R.ld Tryd.isAgg22 rfl rfl (.tl (.tl (.tl .hd))) rfl ?_
            refine TL.nil (Plan.e1 (HLe.refl _) ?_)
            refine Plan.v 2 [3, 5, 6, 7, 8] (by kernel_rfl) (by kernel_rfl) (by kernel_rfl) (by kernel_rfl) rfl (fun _ _ h_ => R.len Tryd.underlying22 rfl rfl (TL.nil h_)) ?_
            refine Plan.v 3 [5, 6, 7, 8] (by kernel_rfl) (by kernel_rfl) (by kernel_rfl) (by kernel_rfl) rfl (fun _ _ h_ => R.addI rfl rfl rfl (by omega) (TL.nil h_)) ?_
            refine Plan.v 7 [5, 6, 8] (by kernel_rfl) (by kernel_rfl) (by kernel_rfl) (by kernel_rfl) rfl (fun _ _ h_ => R.asE rfl (by conv => lhs; whnf) (TL.nil h_)) ?_
            refine Plan.s1 5 [6, 8] (by kernel_rfl) (by kernel_rfl) rfl ?_
            refine R.ld Tryd.isAgg23 rfl rfl (.tl (.tl (.tl .hd))) rfl ?_
            refine TL.nil (Plan.e1 (HLe.refl _) ?_)
            refine Plan.v 6 [8] (by kernel_rfl) (by kernel_rfl) (by kernel_rfl) (by kernel_rfl) rfl (fun _ _ h_ => R.len Tryd.underlying23 rfl rfl (TL.nil h_)) ?_
            refine Plan.v 8 [] (by kernel_rfl) (by kernel_rfl) (by kernel_rfl) (by kernel_rfl) rfl (fun _ _ h_ => R.asE rfl (by conv => lhs; whnf) (TL.nil h_)) ?_
            refine Plan.done (Post.thnN ?_)
            exact ⟨(((r23.2.1.length : Int) + 1), (r23.2.2.length : Int)), HLe.refl _, ⟨(Has.cons .hd (Has.cons .hd (Has.cons .hd (Has.cons .hd Has.nil)))), (by first | omega | (simp; done) | (simp; omega) | (simp at *; omega)), (by first | omega | (simp; done) | (simp; omega) | (simp at *; omega)), (by rfl)⟩, rfl, rfl, rfl, rfl, trivial⟩
          · refine R.ld Tryd.isAgg23 rfl rfl (.tl (.tl (.tl .hd))) rfl ?_
            refine TL.nil (Plan.e1 (HLe.refl _) ?_)
            refine Plan.v 6 [1, 2, 3, 7, 8] (by kernel_rfl) (by kernel_rfl) (by kernel_rfl) (by kernel_rfl) rfl (fun _ _ h_ => R.len Tryd.underlying23 rfl rfl (TL.nil h_)) ?_
            refine Plan.s1 1 [2, 3, 7, 8] (by kernel_rfl) (by kernel_rfl) rfl ?_
            refine R.ld Tryd.isAgg22 rfl rfl (.tl (.tl (.tl .hd))) rfl ?_
            refine TL.nil (Plan.e1 (HLe.refl _) ?_)
            refine Plan.v 2 [3, 7, 8] (by kernel_rfl) (by kernel_rfl) (by kernel_rfl) (by kernel_rfl) rfl (fun _ _ h_ => R.len Tryd.underlying22 rfl rfl (TL.nil h_)) ?_
            refine Plan.v 3 [7, 8] (by kernel_rfl) (by kernel_rfl) (by kernel_rfl) (by kernel_rfl) rfl (fun _ _ h_ => R.addI rfl rfl rfl (by omega) (TL.nil h_)) ?_
            refine Plan.v 7 [8] (by kernel_rfl) (by kernel_rfl) (by kernel_rfl) (by kernel_rfl) rfl (fun _ _ h_ => R.asE rfl (by conv => lhs; whnf) (TL.nil h_)) ?_
            refine Plan.v 8 [] (by kernel_rfl) (by kernel_rfl) (by kernel_rfl) (by kernel_rfl) rfl (fun _ _ h_ => R.asE rfl (by conv => lhs; whnf) (TL.nil h_)) ?_
            refine Plan.done (Post.thnN ?_)
            exact ⟨(((r23.2.1.length : Int) + 1), (r23.2.2.length : Int)), HLe.refl _, ⟨(Has.cons .hd (Has.cons .hd (Has.cons .hd (Has.cons .hd Has.nil)))), (by first | omega | (simp; done) | (simp; omega) | (simp at *; omega)), (by first | omega | (simp; done) | (simp; omega) | (simp at *; omega)), (by rfl)⟩, rfl, rfl, rfl, rfl, trivial⟩
        · intro ⟨n6c2, n7c2⟩ σ_c2 H_c2 L_c2 ds_c2 s_c2 hI_c2
          obtain ⟨hLc2, hBc2_0, hBc2_1, hTc2⟩ := hI_c2
          refine T.has hLc2 ?_
          refine T.seq ?_
          refine T.cutK (ι := Int × (List (Int × Bool)) × Chunk × Int × Value × (List (Int × Bool)) × Chunk × Value × (List Int) × Chunk) (fun ⟨n6c3, xr23_0_1c3, cr23_0_1c3, nb1c3_0, vb1c3_1, xb1c3_1, cb1c3_1, vb1c3_2, xb1c3_2, cb1c3_2⟩ H' L' ds' => Has L' [[(b2, .cells #[.int .i64 0, .slice none 0 0, .slice none 0 0] 25)], [(b1, .cells #[.int .i64 nb1c3_0, vb1c3_1, vb1c3_2] 25)], cb1c3_1, cb1c3_2] ∧ OwnS slotE 101 H' (.slice A23_0_1 r23.2.1.length p23_0_1) xr23_0_1c3 cr23_0_1c3 ∧ OwnS slotE 101 H' vb1c3_1 xb1c3_1 cb1c3_1 ∧ OwnS (intE .i64) 3 H' vb1c3_2 xb1c3_2 cb1c3_2 ∧ (1 ≤ n6c3 ∧ n6c3 ≤ xb1c3_1.length) ∧ xb1c3_1.length ≤ 2000000 ∧ (if (0 : Int) < n7c2 then (.go (((r23.2.2.getD (((n7c2 - 1)).toNat) (0 : Int)), (r23.2.1.set ((((r23.2.2.getD (((n7c2 - 1)).toNat) (0 : Int)) - 1)).toNat) (((IntKind.i64.wrap ((r23.2.1.getD ((((r23.2.2.getD (((n7c2 - 1)).toNat) (0 : Int)) - 1)).toNat) (((0, false) : Int × Bool) : Int × Bool)).1 + 1)), true))), r23.1, (r23.2.1.set ((((r23.2.2.getD (((n7c2 - 1)).toNat) (0 : Int)) - 1)).toNat) (((IntKind.i64.wrap ((r23.2.1.getD ((((r23.2.2.getD (((n7c2 - 1)).toNat) (0 : Int)) - 1)).toNat) (((0, false) : Int × Bool) : Int × Bool)).1 + 1)), true))), (r23.2.2.take (((n7c2 - 1)).toNat))))) else (if ((IntKind.i64.wrap (r23.1 + 2)) : Int) < n6c2 then (.ret ((((0, [], []) : Int × (List (Int × Bool)) × (List Int)), 0, 121))) else (.go ((n6c2, r23.2.1, r23.1, (r23.2.1 ++ [((0, true) : Int × Bool)]), r23.2.2)))) : LR ((Int × (List (Int × Bool)) × (List Int)) × Int × Int) (Int × (List (Int × Bool)) × Int × (List (Int × Bool)) × (List Int))) = .go (n6c3, xr23_0_1c3, nb1c3_0, xb1c3_1, xb1c3_2)) (fun ⟨n6c3, xr23_0_1c3, cr23_0_1c3, nb1c3_0, vb1c3_1, xb1c3_1, cb1c3_1, vb1c3_2, xb1c3_2, cb1c3_2⟩ => [(1, .pointer (some ⟨b1, 0, none⟩)), (2, .pointer (some ⟨b2, 0, none⟩)), (6, .int .i64 n6c3)]) ?_ ?_
          · refine T.block ?_
            refine T.seq ?_
            refine T.region ?_
            refine R.mvE rfl (by conv => lhs; whnf) ?_
            refine R.gtr rfl rfl rfl ?_
            refine R.asE rfl (by conv => lhs; whnf) ?_
            refine TL.nil (Post.thnN ?_)
            refine T.condD rfl (fun c37 => ?_) (fun c37 => ?_)
            · refine T.set 37 (.bool true) (congrArg Value.bool (decide_eq_true c37)) ?_
              refine T.seq ?_
              refine T.region ?_
              refine R.fldA Tryd.underlying25 rfl Tryd.sizeOf23 (by decide) rfl rfl ?_
              refine R.ld Tryd.isAgg23 rfl rfl (.tl (.tl (.tl .hd))) rfl ?_
              refine R.mvE rfl (by conv => lhs; whnf) ?_
              refine R.subI rfl rfl rfl (by omega) ?_
              have hl44 : ((n7c2 - 1)).toNat < r23.2.2.length := by first | omega | (simp; done) | (simp; omega) | (simp at *; omega)
              obtain ⟨y44, e44, h44⟩ : ∃ y, y = (r23.2.2.getD (((n7c2 - 1)).toNat) (0 : Int)) ∧ r23.2.2[((n7c2 - 1)).toNat]? = some y := ⟨_, rfl, getD_get (by first | exact hl44 | simpa using hl44 | (rw [(sortI_perm _).length_eq]; exact hl44))⟩
              obtain ⟨b44, u44, cs44, l44, f44, j44, i44, g44, k44⟩ := OwnS.elem (OwnS.mono w23_0_2 s_c2) h44
              obtain rfl : l44 = [.int .i64 y44] := g44
              refine R.ixp (sz := ((intE .i64)).size) Tryd.underlying23 Tryd.sizeOf3 rfl rfl rfl (by first | omega | (simp; done) | (simp; omega) | (simp at *; omega)) i44 ?_
              refine R.ld Tryd.isAgg3 rfl rfl (by rw [← f44]; exact (.tl .hd)) (k44 0 _ rfl) ?_
              refine R.asE rfl (by conv => lhs; whnf) ?_
              refine TL.nil (Post.thnN ?_)
              refine T.seq ?_
              refine T.region ?_
              refine R.fldA Tryd.underlying25 rfl Tryd.sizeOf23 (by decide) rfl rfl ?_
              refine R.ld Tryd.isAgg23 rfl rfl (.tl (.tl (.tl .hd))) rfl ?_
              refine R.mvE rfl (by conv => lhs; whnf) ?_
              refine R.subI rfl rfl rfl (by omega) ?_
              refine R.mvE rfl (by conv => lhs; whnf) ?_
              refine R.subI rfl rfl rfl (by omega) ?_
              have z52 := OwnS.takeM (OwnS.mono w23_0_2 s_c2) (i := ((n7c2 - 1)).toNat) (m := ((n7c2 - 1)).toNat) (by first | omega | (simp; omega)) (by first | omega | (simp; omega)) (by first | omega | (simp; omega))
              obtain ⟨x52, e52⟩ : ∃ x, x = (r23.2.2.take (((n7c2 - 1)).toNat)) := ⟨_, rfl⟩
              rw [← e52] at z52
              obtain ⟨A52, p52, q52, m52, n52⟩ := OwnS.shape z52
              have t52 : x52.length = ((n7c2 - 1)).toNat := by rw [e52, List.length_take]; omega
              refine R.sHM Tryd.underlying23 Tryd.sizeOf3 rfl rfl rfl rfl (by first | omega | (simp; omega)) (by first | omega | (simp; omega)) (by first | omega | (simp; omega))  ?_
              refine TL.set 52 (.slice A52 x52.length p52) (by first | exact q52 | (rw [← q52]; simp; done) | (rw [← q52]; rfl)) ?_
              rw [q52] at z52
              refine R.fldA Tryd.underlying25 rfl Tryd.sizeOf23 (by decide) rfl rfl ?_
              refine R.stX (old := [.int .i64 (r23.1), .slice A23_0_1 r23.2.1.length p23_0_1, .slice A23_0_2 r23.2.2.length p23_0_2]) (l := [.slice A52 x52.length p52]) (new := [.int .i64 (r23.1), .slice A23_0_1 r23.2.1.length p23_0_1, .slice A52 x52.length p52]) (et := 25) Tryd.sizeOf23 rfl rfl rfl (cells1 rfl) rfl (by show 2 + 1 ≤ 3; decide) rfl (all_one rfl) (.tl (.tl (.tl .hd))) ?_
              refine TL.nil (Post.thnN ?_)
              have hidx := hck.free_rng (x := y44) (by have := List.mem_of_getElem? h44; rw [q23] at this; exact this)
              refine T.draw Tryd_mixed (by kernel_rfl) ?_
              refine Plan.v 0 [1, 2, 3, 4, 5, 6, 7, 8, 9, 10, 11, 12, 13, 14] (by kernel_rfl) (by kernel_rfl) (by kernel_rfl) (by kernel_rfl) rfl (fun _ _ h_ => R.fldA Tryd.underlying25 rfl Tryd.sizeOf22 (by decide) rfl rfl (TL.nil h_)) ?_
              refine Plan.v 2 [1, 3, 4, 5, 6, 7, 8, 9, 10, 11, 12, 13, 14] (by kernel_rfl) (by kernel_rfl) (by kernel_rfl) (by kernel_rfl) rfl (fun _ _ h_ => R.mvE rfl (by conv => lhs; whnf) (TL.nil h_)) ?_
              refine Plan.v 3 [1, 4, 5, 6, 7, 8, 9, 10, 11, 12, 13, 14] (by kernel_rfl) (by kernel_rfl) (by kernel_rfl) (by kernel_rfl) rfl (fun _ _ h_ => R.subI rfl rfl rfl (by omega) (TL.nil h_)) ?_
              refine Plan.v 4 [1, 5, 6, 7, 8, 9, 10, 11, 12, 13, 14] (by kernel_rfl) (by kernel_rfl) (by kernel_rfl) (by kernel_rfl) rfl (fun _ _ h_ => R.fldA Tryd.underlying25 rfl Tryd.sizeOf22 (by decide) rfl rfl (TL.nil h_)) ?_
              refine Plan.v 6 [1, 5, 7, 8, 9, 10, 11, 12, 13, 14] (by kernel_rfl) (by kernel_rfl) (by kernel_rfl) (by kernel_rfl) rfl (fun _ _ h_ => R.mvE rfl (by conv => lhs; whnf) (TL.nil h_)) ?_
              refine Plan.v 7 [1, 5, 8, 9, 10, 11, 12, 13, 14] (by kernel_rfl) (by kernel_rfl) (by kernel_rfl) (by kernel_rfl) rfl (fun _ _ h_ => R.subI rfl rfl rfl (by omega) (TL.nil h_)) ?_
              refine Plan.s2 1 5 [5, 8, 9, 10, 11, 12, 13, 14] [1, 8, 9, 10, 11, 12, 13, 14] (by kernel_rfl) (by kernel_rfl) (by kernel_rfl) rfl rfl ?_ ?_
              · refine R.ld Tryd.isAgg22 rfl rfl (.tl (.tl (.tl .hd))) rfl ?_
                refine TL.nil (Plan.e1 (HLe.refl _) ?_)
                refine Plan.s1 5 [8, 9, 10, 11, 12, 13, 14] (by kernel_rfl) (by kernel_rfl) rfl ?_
                refine R.ld Tryd.isAgg22 rfl rfl (.tl (.tl (.tl .hd))) rfl ?_
                refine TL.nil (Plan.e1 (HLe.refl _) ?_)
                have hl62 : ((y44 - 1)).toNat < r23.2.1.length := by first | omega | (simp; done) | (simp; omega) | (simp at *; omega)
                obtain ⟨y62, e62, h62⟩ : ∃ y, y = (r23.2.1.getD (((y44 - 1)).toNat) (((0, false) : Int × Bool) : Int × Bool)) ∧ r23.2.1[((y44 - 1)).toNat]? = some y := ⟨_, rfl, getD_get (by first | exact hl62 | simpa using hl62 | (rw [(sortI_perm _).length_eq]; exact hl62))⟩
                obtain ⟨b62, u62, cs62, l62, f62, j62, i62, g62, k62⟩ := OwnS.elem (OwnS.mono w23_0_1 s_c2) h62
                obtain rfl : l62 = [.int .i64 (y62.1), .bool (y62.2)] := g62
                refine Plan.v 8 [9, 10, 11, 12, 13, 14] (by kernel_rfl) (by kernel_rfl) (by kernel_rfl) (by kernel_rfl) rfl (fun _ _ h_ => R.ixp (sz := (slotE).size) Tryd.underlying22 Tryd.sizeOf101 rfl rfl rfl (by first | omega | (simp; done) | (simp; omega) | (simp at *; omega)) i62 (TL.nil h_)) ?_
                refine Plan.v 9 [10, 11, 12, 13, 14] (by kernel_rfl) (by kernel_rfl) (by kernel_rfl) (by kernel_rfl) rfl (fun _ _ h_ => R.fldA Tryd.underlying101 rfl Tryd.sizeOf3 (by decide) rfl rfl (TL.nil h_)) ?_
                refine Plan.s1 10 [11, 12, 13, 14] (by kernel_rfl) (by kernel_rfl) rfl ?_
                refine R.ld Tryd.isAgg3 rfl rfl (by rw [← f62]; exact .hd) (k62 0 _ rfl) ?_
                refine TL.nil (Plan.e1 (HLe.refl _) ?_)
                refine Plan.v 11 [12, 13, 14] (by kernel_rfl) (by kernel_rfl) (by kernel_rfl) (by kernel_rfl) rfl (fun _ _ h_ => R.add rfl rfl rfl (TL.nil h_)) ?_
                refine Plan.v 12 [13, 14] (by kernel_rfl) (by kernel_rfl) (by kernel_rfl) (by kernel_rfl) rfl (fun _ _ h_ => R.bld (cs := [.int .i64 (IntKind.i64.wrap (y62.1 + 1)), .bool true]) rfl (fun _ => by kernel_rfl) (TL.nil h_)) ?_
                have hl67 : ((y44 - 1)).toNat < r23.2.1.length := by first | omega | (simp; done) | (simp; omega) | (simp at *; omega)
                obtain ⟨y67, e67, h67⟩ : ∃ y, y = (r23.2.1.getD (((y44 - 1)).toNat) (((0, false) : Int × Bool) : Int × Bool)) ∧ r23.2.1[((y44 - 1)).toNat]? = some y := ⟨_, rfl, getD_get (by first | exact hl67 | simpa using hl67 | (rw [(sortI_perm _).length_eq]; exact hl67))⟩
                obtain ⟨b67, u67, cs67, l67, f67, j67, i67, g67, k67⟩ := OwnS.elem (OwnS.mono w23_0_1 s_c2) h67
                obtain rfl : l67 = [.int .i64 (y67.1), .bool (y67.2)] := g67
                refine Plan.v 13 [14] (by kernel_rfl) (by kernel_rfl) (by kernel_rfl) (by kernel_rfl) rfl (fun _ _ h_ => R.ixp (sz := (slotE).size) Tryd.underlying22 Tryd.sizeOf101 rfl rfl rfl (by first | omega | (simp; done) | (simp; omega) | (simp at *; omega)) i67 (TL.nil h_)) ?_
                refine Plan.s1 14 [] (by kernel_rfl) (by kernel_rfl) rfl ?_
                refine R.stEF (E := slotE) (e := 101) (v := (.slice A23_0_1 r23.2.1.length p23_0_1)) (m := [.int .i64 (IntKind.i64.wrap (y62.1 + 1)), .bool true]) (o := 0) (y := y67) (y' := ((IntKind.i64.wrap (y62.1 + 1)), true)) (j := ((y44 - 1)).toNat) Tryd.sizeOf101 rfl (OwnS.mono w23_0_1 s_c2) .hd i67 rfl rfl rfl (all_one rfl) h67 (by show 0 + 2 ≤ 2; decide) (fun l hl => by have e0 : l = [.int .i64 (y67.1), .bool (y67.2)] := hl; subst e0; exact rfl) ?_
                intro cst12 wst12
                refine TL.nil (Plan.e0 (HLe.refl _) ?_)
                refine Plan.done (Post.blkN ?_)
                refine id (Post.thnN ?_)
                exact ⟨(y44, (r23.2.1.set (((y44 - 1)).toNat) (((IntKind.i64.wrap (y62.1 + 1)), true))), cst12, r23.1, .slice A23_0_1 r23.2.1.length p23_0_1, (r23.2.1.set (((y44 - 1)).toNat) (((IntKind.i64.wrap (y62.1 + 1)), true))), cst12, .slice A52 x52.length p52, x52, c23_0_2), HLe.refl _, ⟨(Has.cons (.tl (.tl .hd)) (Has.cons (.tl (.tl .hd)) (Has.cons .hd (Has.cons .hd Has.nil)))), wst12, wst12, z52, (by first | omega | (simp; done) | (simp; omega) | (simp at *; omega)), (by first | omega | (simp; done) | (simp; omega) | (simp at *; omega)), (by subst e67; subst e62; subst e52; subst e44; rw [if_pos c37])⟩, rfl, rfl, rfl, trivial⟩
              · refine R.ld Tryd.isAgg22 rfl rfl (.tl (.tl (.tl .hd))) rfl ?_
                refine TL.nil (Plan.e1 (HLe.refl _) ?_)
                have hl62 : ((y44 - 1)).toNat < r23.2.1.length := by first | omega | (simp; done) | (simp; omega) | (simp at *; omega)
                obtain ⟨y62, e62, h62⟩ : ∃ y, y = (r23.2.1.getD (((y44 - 1)).toNat) (((0, false) : Int × Bool) : Int × Bool)) ∧ r23.2.1[((y44 - 1)).toNat]? = some y := ⟨_, rfl, getD_get (by first | exact hl62 | simpa using hl62 | (rw [(sortI_perm _).length_eq]; exact hl62))⟩
                obtain ⟨b62, u62, cs62, l62, f62, j62, i62, g62, k62⟩ := OwnS.elem (OwnS.mono w23_0_1 s_c2) h62
                obtain rfl : l62 = [.int .i64 (y62.1), .bool (y62.2)] := g62
                refine Plan.v 8 [1, 9, 10, 11, 12, 13, 14] (by kernel_rfl) (by kernel_rfl) (by kernel_rfl) (by kernel_rfl) rfl (fun _ _ h_ => R.ixp (sz := (slotE).size) Tryd.underlying22 Tryd.sizeOf101 rfl rfl rfl (by first | omega | (simp; done) | (simp; omega) | (simp at *; omega)) i62 (TL.nil h_)) ?_
                refine Plan.v 9 [1, 10, 11, 12, 13, 14] (by kernel_rfl) (by kernel_rfl) (by kernel_rfl) (by kernel_rfl) rfl (fun _ _ h_ => R.fldA Tryd.underlying101 rfl Tryd.sizeOf3 (by decide) rfl rfl (TL.nil h_)) ?_
                refine Plan.s2 1 10 [10, 11, 12, 13, 14] [1, 11, 12, 13, 14] (by kernel_rfl) (by kernel_rfl) (by kernel_rfl) rfl rfl ?_ ?_
                · refine R.ld Tryd.isAgg22 rfl rfl (.tl (.tl (.tl .hd))) rfl ?_
                  refine TL.nil (Plan.e1 (HLe.refl _) ?_)
                  refine Plan.s1 10 [11, 12, 13, 14] (by kernel_rfl) (by kernel_rfl) rfl ?_
                  refine R.ld Tryd.isAgg3 rfl rfl (by rw [← f62]; exact .hd) (k62 0 _ rfl) ?_
                  refine TL.nil (Plan.e1 (HLe.refl _) ?_)
                  refine Plan.v 11 [12, 13, 14] (by kernel_rfl) (by kernel_rfl) (by kernel_rfl) (by kernel_rfl) rfl (fun _ _ h_ => R.add rfl rfl rfl (TL.nil h_)) ?_
                  refine Plan.v 12 [13, 14] (by kernel_rfl) (by kernel_rfl) (by kernel_rfl) (by kernel_rfl) rfl (fun _ _ h_ => R.bld (cs := [.int .i64 (IntKind.i64.wrap (y62.1 + 1)), .bool true]) rfl (fun _ => by kernel_rfl) (TL.nil h_)) ?_
                  have hl67 : ((y44 - 1)).toNat < r23.2.1.length := by first | omega | (simp; done) | (simp; omega) | (simp at *; omega)
                  obtain ⟨y67, e67, h67⟩ : ∃ y, y = (r23.2.1.getD (((y44 - 1)).toNat) (((0, false) : Int × Bool) : Int × Bool)) ∧ r23.2.1[((y44 - 1)).toNat]? = some y := ⟨_, rfl, getD_get (by first | exact hl67 | simpa using hl67 | (rw [(sortI_perm _).length_eq]; exact hl67))⟩
                  obtain ⟨b67, u67, cs67, l67, f67, j67, i67, g67, k67⟩ := OwnS.elem (OwnS.mono w23_0_1 s_c2) h67
                  obtain rfl : l67 = [.int .i64 (y67.1), .bool (y67.2)] := g67
                  refine Plan.v 13 [14] (by kernel_rfl) (by kernel_rfl) (by kernel_rfl) (by kernel_rfl) rfl (fun _ _ h_ => R.ixp (sz := (slotE).size) Tryd.underlying22 Tryd.sizeOf101 rfl rfl rfl (by first | omega | (simp; done) | (simp; omega) | (simp at *; omega)) i67 (TL.nil h_)) ?_
                  refine Plan.s1 14 [] (by kernel_rfl) (by kernel_rfl) rfl ?_
                  refine R.stEF (E := slotE) (e := 101) (v := (.slice A23_0_1 r23.2.1.length p23_0_1)) (m := [.int .i64 (IntKind.i64.wrap (y62.1 + 1)), .bool true]) (o := 0) (y := y67) (y' := ((IntKind.i64.wrap (y62.1 + 1)), true)) (j := ((y44 - 1)).toNat) Tryd.sizeOf101 rfl (OwnS.mono w23_0_1 s_c2) .hd i67 rfl rfl rfl (all_one rfl) h67 (by show 0 + 2 ≤ 2; decide) (fun l hl => by have e0 : l = [.int .i64 (y67.1), .bool (y67.2)] := hl; subst e0; exact rfl) ?_
                  intro cst13 wst13
                  refine TL.nil (Plan.e0 (HLe.refl _) ?_)
                  refine Plan.done (Post.blkN ?_)
                  refine id (Post.thnN ?_)
                  exact ⟨(y44, (r23.2.1.set (((y44 - 1)).toNat) (((IntKind.i64.wrap (y62.1 + 1)), true))), cst13, r23.1, .slice A23_0_1 r23.2.1.length p23_0_1, (r23.2.1.set (((y44 - 1)).toNat) (((IntKind.i64.wrap (y62.1 + 1)), true))), cst13, .slice A52 x52.length p52, x52, c23_0_2), HLe.refl _, ⟨(Has.cons (.tl (.tl .hd)) (Has.cons (.tl (.tl .hd)) (Has.cons .hd (Has.cons .hd Has.nil)))), wst13, wst13, z52, (by first | omega | (simp; done) | (simp; omega) | (simp at *; omega)), (by first | omega | (simp; done) | (simp; omega) | (simp at *; omega)), (by subst e67; subst e62; subst e52; subst e44; rw [if_pos c37])⟩, rfl, rfl, rfl, trivial⟩
                · refine R.ld Tryd.isAgg3 rfl rfl (by rw [← f62]; exact .hd) (k62 0 _ rfl) ?_
                  refine TL.nil (Plan.e1 (HLe.refl _) ?_)
                  refine Plan.v 11 [1, 12, 13, 14] (by kernel_rfl) (by kernel_rfl) (by kernel_rfl) (by kernel_rfl) rfl (fun _ _ h_ => R.add rfl rfl rfl (TL.nil h_)) ?_
                  refine Plan.v 12 [1, 13, 14] (by kernel_rfl) (by kernel_rfl) (by kernel_rfl) (by kernel_rfl) rfl (fun _ _ h_ => R.bld (cs := [.int .i64 (IntKind.i64.wrap (y62.1 + 1)), .bool true]) rfl (fun _ => by kernel_rfl) (TL.nil h_)) ?_
                  refine Plan.s1 1 [13, 14] (by kernel_rfl) (by kernel_rfl) rfl ?_
                  refine R.ld Tryd.isAgg22 rfl rfl (.tl (.tl (.tl .hd))) rfl ?_
                  refine TL.nil (Plan.e1 (HLe.refl _) ?_)
                  have hl67 : ((y44 - 1)).toNat < r23.2.1.length := by first | omega | (simp; done) | (simp; omega) | (simp at *; omega)
                  obtain ⟨y67, e67, h67⟩ : ∃ y, y = (r23.2.1.getD (((y44 - 1)).toNat) (((0, false) : Int × Bool) : Int × Bool)) ∧ r23.2.1[((y44 - 1)).toNat]? = some y := ⟨_, rfl, getD_get (by first | exact hl67 | simpa using hl67 | (rw [(sortI_perm _).length_eq]; exact hl67))⟩
                  obtain ⟨b67, u67, cs67, l67, f67, j67, i67, g67, k67⟩ := OwnS.elem (OwnS.mono w23_0_1 s_c2) h67
                  obtain rfl : l67 = [.int .i64 (y67.1), .bool (y67.2)] := g67
                  refine Plan.v 13 [14] (by kernel_rfl) (by kernel_rfl) (by kernel_rfl) (by kernel_rfl) rfl (fun _ _ h_ => R.ixp (sz := (slotE).size) Tryd.underlying22 Tryd.sizeOf101 rfl rfl rfl (by first | omega | (simp; done) | (simp; omega) | (simp at *; omega)) i67 (TL.nil h_)) ?_
                  refine Plan.s1 14 [] (by kernel_rfl) (by kernel_rfl) rfl ?_
                  refine R.stEF (E := slotE) (e := 101) (v := (.slice A23_0_1 r23.2.1.length p23_0_1)) (m := [.int .i64 (IntKind.i64.wrap (y62.1 + 1)), .bool true]) (o := 0) (y := y67) (y' := ((IntKind.i64.wrap (y62.1 + 1)), true)) (j := ((y44 - 1)).toNat) Tryd.sizeOf101 rfl (OwnS.mono w23_0_1 s_c2) .hd i67 rfl rfl rfl (all_one rfl) h67 (by show 0 + 2 ≤ 2; decide) (fun l hl => by have e0 : l = [.int .i64 (y67.1), .bool (y67.2)] := hl; subst e0; exact rfl) ?_
                  intro cst14 wst14
                  refine TL.nil (Plan.e0 (HLe.refl _) ?_)
                  refine Plan.done (Post.blkN ?_)
                  refine id (Post.thnN ?_)
                  exact ⟨(y44, (r23.2.1.set (((y44 - 1)).toNat) (((IntKind.i64.wrap (y62.1 + 1)), true))), cst14, r23.1, .slice A23_0_1 r23.2.1.length p23_0_1, (r23.2.1.set (((y44 - 1)).toNat) (((IntKind.i64.wrap (y62.1 + 1)), true))), cst14, .slice A52 x52.length p52, x52, c23_0_2), HLe.refl _, ⟨(Has.cons (.tl (.tl .hd)) (Has.cons (.tl (.tl .hd)) (Has.cons .hd (Has.cons .hd Has.nil)))), wst14, wst14, z52, (by first | omega | (simp; done) | (simp; omega) | (simp at *; omega)), (by first | omega | (simp; done) | (simp; omega) | (simp at *; omega)), (by subst e67; subst e62; subst e52; subst e44; rw [if_pos c37])⟩, rfl, rfl, rfl, trivial⟩
            · refine T.set 37 (.bool false) (congrArg Value.bool (decide_eq_false c37)) ?_
              refine T.seq ?_
              refine T.region ?_
              refine R.mvE rfl (by conv => lhs; whnf) ?_
              refine R.fldA Tryd.underlying25 rfl Tryd.sizeOf3 (by decide) rfl rfl ?_
              refine R.ld Tryd.isAgg3 rfl rfl (.tl (.tl (.tl .hd))) rfl ?_
              refine R.add rfl rfl rfl ?_
              refine R.gtr rfl rfl rfl ?_
              refine R.asE rfl (by conv => lhs; whnf) ?_
              refine TL.nil (Post.thnN ?_)
              refine T.condD rfl (fun c68 => ?_) (fun c68 => ?_)
              · refine T.set 68 (.bool true) (congrArg Value.bool (decide_eq_true c68)) ?_
                refine T.seq ?_
                refine T.region ?_
                refine R.bld (cs := [.int .i64 0, .slice none 0 0, .slice none 0 0]) rfl (fun _ => by kernel_rfl) ?_
                refine R.stX (old := [.int .i64 0, .slice none 0 0, .slice none 0 0]) (l := [.int .i64 0, .slice none 0 0, .slice none 0 0]) (new := [.int .i64 0, .slice none 0 0, .slice none 0 0]) (et := 25) Tryd.sizeOf25 rfl rfl rfl rfl rfl (by show 0 + 3 ≤ 3; decide) rfl (all_one rfl) (.tl (.tl .hd)) ?_
                refine R.asE rfl (by conv => lhs; whnf) ?_
                refine R.asE rfl (by conv => lhs; whnf) ?_
                refine TL.nil (Post.thnN ?_)
                refine T.has (Has.none (Has.none (Has.cons (.tl (.tl .hd)) Has.nil))) ?_
                refine T.ret (Post.blkR (Post.thnR ?_))
                have hM : alloc_Take_m a0 = (((0, [], []) : Int × (List (Int × Bool)) × (List Int)), 0, 121) := by subst er23; rw [alloc_Take_m, if_neg c13, hTc1, LR.seq_go, if_f c20, LR.seq_go, hTc2, LR.seq_go, if_neg c37, if_pos c68, LR.on_ret]
                exact finR3 (v := .agg #[.int .i64 0, .slice none 0 0, .slice none 0 0]) (v' := .int .u64 0) (v'' := .int .i64 121) [[], []] rfl (.cellA (cs := [.int .i64 0, .slice none 0 0, .slice none 0 0]) (l := [.int .i64 0, .slice none 0 0, .slice none 0 0]) Tryd.isAgg25 Tryd.sizeOf25 rfl (.tl (.tl .hd)) rfl rfl) (.tmp rfl) (.tmp rfl) (List.sublist_append_left ([[], []] : Own) _) ⟨.slice none 0 0, .slice none 0 0, [], [], by first | rw [hM] | rfl, rfl, by rw [hM]; exact OwnS.nil, by rw [hM]; exact OwnS.nil⟩
              · refine T.set 68 (.bool false) (congrArg Value.bool (decide_eq_false c68)) ?_
                refine T.region ?_
                refine R.fldA Tryd.underlying25 rfl Tryd.sizeOf22 (by decide) rfl rfl ?_
                refine R.ld Tryd.isAgg22 rfl rfl (.tl (.tl (.tl .hd))) rfl ?_
                refine R.ldXH (cs := [.int .i64 0, .bool true]) (l := [.int .i64 0, .bool true]) Tryd.isAgg101 Tryd.sizeOf101 rfl rfl ((s_c1.trans (s23.trans s_c2)) _ _ hG0) rfl rfl ?_
                refine R.bs (e := 101) (cs := [.int .i64 0, .bool true]) rfl (fun _ => by kernel_rfl) ?_
                intro b34
                have w34 : OwnS slotE 101 H_c2 (.slice (some ⟨b34, 0, none⟩) 1 1) [((0, true) : Int × Bool)] [(b34, .cells #[.int .i64 0, .bool true] 101)] := OwnS.lit (xs := [((0, true) : Int × Bool)]) (cellsOf_cons (a := [.int .i64 0, .bool true]) rfl cellsOf_nil) (by show 1 ≤ maxLen; decide)
                obtain ⟨k35, y35, r35⟩ := Src.ownA w34
                refine R.app (E := slotE) (e := 101) (xs := r23.2.1) (ys := [((0, true) : Int × Bool)]) Tryd_ty22 rfl rfl rfl (OwnS.mono w23_0_1 s_c2) (.tl .hd) (r35 _ .hd) y35 (by (try simp only [List.length_append, List.length_cons, List.length_nil, List.length_replicate, List.length_take, List.length_drop]); omega) (by (try simp only [List.length_append, List.length_cons, List.length_nil, List.length_replicate, List.length_take, List.length_drop]); omega) ?_
                intro v35 c35 w35
                obtain ⟨A35, p35, rfl, m35, n35⟩ := OwnS.shape w35
                refine TL.del (.tl .hd) ?_
                refine R.fldA Tryd.underlying25 rfl Tryd.sizeOf22 (by decide) rfl rfl ?_
                refine R.stX (old := [.int .i64 (r23.1), .slice A23_0_1 r23.2.1.length p23_0_1, .slice A23_0_2 r23.2.2.length p23_0_2]) (l := [.slice A35 (r23.2.1 ++ [((0, true) : Int × Bool)]).length p35]) (new := [.int .i64 (r23.1), .slice A35 (r23.2.1 ++ [((0, true) : Int × Bool)]).length p35, .slice A23_0_2 r23.2.2.length p23_0_2]) (et := 25) Tryd.sizeOf22 rfl rfl rfl (cells1 rfl) rfl (by show 1 + 1 ≤ 3; decide) rfl (all_one rfl) (.tl (.tl (.tl .hd))) ?_
                refine TL.nil (Post.blkN ?_)
                refine id (Post.thnN ?_)
                exact ⟨(n6c2, r23.2.1, c23_0_1, r23.1, .slice A35 (r23.2.1 ++ [((0, true) : Int × Bool)]).length p35, (r23.2.1 ++ [((0, true) : Int × Bool)]), c35, .slice A23_0_2 r23.2.2.length p23_0_2, r23.2.2, c23_0_2), HLe.refl _, ⟨(Has.cons (.tl (.tl .hd)) (Has.cons (.tl (.tl .hd)) (Has.cons .hd (Has.cons .hd Has.nil)))), (OwnS.mono w23_0_1 s_c2), w35, (OwnS.mono w23_0_2 s_c2), (by first | omega | (simp; done) | (simp; omega) | (simp at *; omega)), (by first | omega | (simp; done) | (simp; omega) | (simp at *; omega)), (by rw [if_neg c37, if_neg c68])⟩, rfl, rfl, rfl, trivial⟩
          · intro ⟨n6c3, xr23_0_1c3, cr23_0_1c3, nb1c3_0, vb1c3_1, xb1c3_1, cb1c3_1, vb1c3_2, xb1c3_2, cb1c3_2⟩ σ_c3 H_c3 L_c3 ds_c3 s_c3 hI_c3
            obtain ⟨hLc3, wr23_0_1c3, wb1c3_1, wb1c3_2, hBc3_0, hBc3_1, hTc3⟩ := hI_c3
            obtain ⟨Ab1c3_1, pb1c3_1, rfl, mb1c3_1, nb1c3_1_⟩ := OwnS.shape wb1c3_1
            obtain ⟨Ab1c3_2, pb1c3_2, rfl, mb1c3_2, nb1c3_2_⟩ := OwnS.shape wb1c3_2
            refine T.has hLc3 ?_
            refine T.seq ?_
            refine T.region ?_
            refine R.mvE rfl (by conv => lhs; whnf) ?_
            refine R.fldA Tryd.underlying25 rfl Tryd.sizeOf22 (by decide) rfl rfl ?_
            refine R.ld Tryd.isAgg22 rfl rfl (.tl .hd) rfl ?_
            refine R.mvE rfl (by conv => lhs; whnf) ?_
            refine R.subI rfl rfl rfl (by omega) ?_
            have hl81 : ((n6c3 - 1)).toNat < xb1c3_1.length := by first | omega | (simp; done) | (simp; omega) | (simp at *; omega)
            obtain ⟨y81, e81, h81⟩ : ∃ y, y = (xb1c3_1.getD (((n6c3 - 1)).toNat) (((0, false) : Int × Bool) : Int × Bool)) ∧ xb1c3_1[((n6c3 - 1)).toNat]? = some y := ⟨_, rfl, getD_get (by first | exact hl81 | simpa using hl81 | (rw [(sortI_perm _).length_eq]; exact hl81))⟩
            obtain ⟨b81, u81, cs81, l81, f81, j81, i81, g81, k81⟩ := OwnS.elem wb1c3_1 h81
            obtain rfl : l81 = [.int .i64 (y81.1), .bool (y81.2)] := g81
            refine R.ixp (sz := (slotE).size) Tryd.underlying22 Tryd.sizeOf101 rfl rfl rfl (by first | omega | (simp; done) | (simp; omega) | (simp at *; omega)) i81 ?_
            refine R.fldA Tryd.underlying101 rfl Tryd.sizeOf3 (by decide) rfl rfl ?_
            refine R.ld Tryd.isAgg3 rfl rfl (by rw [← f81]; exact (.tl (.tl .hd))) (k81 0 _ rfl) ?_
            obtain ⟨r84, er84⟩ : ∃ r, r = (ident_Entity_m n6c3 y81.1) := ⟨_, rfl⟩
            refine R.callv (v := .tuple #[.int .u64 r84.1, .int .i64 r84.2]) rfl rfl rfl (by rw [er84]; exact ident_Entity_c _ (n6c3) (y81.1)) ?_
            refine R.mvE rfl (by conv => lhs; whnf) ?_
            refine R.ext rfl rfl rfl ?_
            refine R.ext rfl rfl rfl ?_
            refine R.asE rfl (by conv => lhs; whnf) ?_
            refine R.asE rfl (by conv => lhs; whnf) ?_
            refine TL.nil (Post.thnN ?_)
            refine T.seq ?_
            refine T.region ?_
            refine R.ldX (cs := [.int .i64 nb1c3_0, .slice Ab1c3_1 xb1c3_1.length pb1c3_1, .slice Ab1c3_2 xb1c3_2.length pb1c3_2]) (l := [.int .i64 nb1c3_0, .slice Ab1c3_1 xb1c3_1.length pb1c3_1, .slice Ab1c3_2 xb1c3_2.length pb1c3_2]) Tryd.isAgg25 Tryd.sizeOf25 rfl rfl (.tl .hd) rfl rfl ?_
            refine R.mvE rfl (by conv => lhs; whnf) ?_
            refine R.mvE rfl (by conv => lhs; whnf) ?_
            refine R.stX (old := [.int .i64 0, .slice none 0 0, .slice none 0 0]) (l := [.int .i64 nb1c3_0, .slice Ab1c3_1 xb1c3_1.length pb1c3_1, .slice Ab1c3_2 xb1c3_2.length pb1c3_2]) (new := [.int .i64 nb1c3_0, .slice Ab1c3_1 xb1c3_1.length pb1c3_1, .slice Ab1c3_2 xb1c3_2.length pb1c3_2]) (et := 25) Tryd.sizeOf25 rfl rfl rfl rfl rfl (by show 0 + 3 ≤ 3; decide) rfl (all_one rfl) .hd ?_
            refine R.asE rfl (by conv => lhs; whnf) ?_
            refine R.asE rfl (by conv => lhs; whnf) ?_
            refine TL.nil (Post.thnN ?_)
            refine T.has (Has.cons (.tl (.tl .hd)) (Has.cons (.tl (.tl .hd)) (Has.cons .hd Has.nil))) ?_
            refine T.ret ?_
            have hM : alloc_Take_m a0 = ((nb1c3_0, xb1c3_1, xb1c3_2), r84.1, r84.2) := by subst er84; subst e81; subst er23; rw [alloc_Take_m, if_neg c13, hTc1, LR.seq_go, if_f c20, LR.seq_go, hTc2, LR.seq_go, hTc3, LR.on_go, LR.seq_go]
            exact finR3 (v := .agg #[.int .i64 nb1c3_0, .slice Ab1c3_1 xb1c3_1.length pb1c3_1, .slice Ab1c3_2 xb1c3_2.length pb1c3_2]) (v' := .int .u64 (r84.1)) (v'' := .int .i64 (r84.2)) [cb1c3_1, cb1c3_2] rfl (.cellA (cs := [.int .i64 nb1c3_0, .slice Ab1c3_1 xb1c3_1.length pb1c3_1, .slice Ab1c3_2 xb1c3_2.length pb1c3_2]) (l := [.int .i64 nb1c3_0, .slice Ab1c3_1 xb1c3_1.length pb1c3_1, .slice Ab1c3_2 xb1c3_2.length pb1c3_2]) Tryd.isAgg25 Tryd.sizeOf25 rfl (.tl (.tl .hd)) rfl rfl) (.tmp rfl) (.tmp rfl) (List.sublist_append_left ([cb1c3_1, cb1c3_2] : Own) _) ⟨.slice Ab1c3_1 xb1c3_1.length pb1c3_1, .slice Ab1c3_2 xb1c3_2.length pb1c3_2, cb1c3_1, cb1c3_2, by first | rw [hM] | rfl, rfl, by rw [hM]; exact wb1c3_1, by rw [hM]; exact wb1c3_2⟩

end Go.SX

set_option linter.unusedVariables false
set_option linter.unusedSimpArgs false
namespace Go.SX
open Go Go.Proofs

def alloc_Room_m (a0 : Int × (List (Int × Bool)) × (List Int)) : Int :=
  if ((alloc_Check_m a0) : Int) ≠ 0 then 0 else ((if (IntKind.i64.wrap ((IntKind.i64.wrap ((IntKind.i64.wrap ((a0.2.2.length : Int) + a0.1)) + 2)) - (a0.2.1.length : Int))) < (IntKind.i64.wrap (a0.1 - (alloc_many_m a0))) then (IntKind.i64.wrap ((IntKind.i64.wrap ((IntKind.i64.wrap ((a0.2.2.length : Int) + a0.1)) + 2)) - (a0.2.1.length : Int))) else (IntKind.i64.wrap (a0.1 - (alloc_many_m a0)))))
def alloc_Alive_m (a0 : Int × (List (Int × Bool)) × (List Int)) (a1 : Int) : Bool :=
  if ((alloc_Check_m a0) : Int) = 0 then ((alloc_alive_m a0 a1)) else false
set_option maxHeartbeats 3200000 in
theorem alloc_Alive_c (H : Heap) {tG0 : TypeId} (hG0 : H 0 = some (.cells #[.int .i64 0, .bool true] tG0)) (a0 : Int × (List (Int × Bool)) × (List Int)) (va0_1 : Value) (ha0_1 : RdS slotE H va0_1 a0.2.1) (va0_2 : Value) (ha0_2 : RdS (intE .i64) H va0_2 a0.2.2) (a1 : Int) (hs : a0.2.1.length ≤ 2000000) (hf : a0.2.2.length ≤ 2000000) : Fv Tryd.prog (fnv 29) [.agg #[.int .i64 a0.1, va0_1, va0_2], .int .u64 a1] H (.bool (alloc_Alive_m a0 a1)) := by
  refine Fc.of_body (N := 13) Tryd.func29 rfl (by kernel_rfl) rfl rfl ?_
  intro w0
  obtain ⟨Aa0_1, ca0_1, rfl, hca0_1, hda0_1, ha0_1⟩ := ha0_1.shape
  obtain ⟨Aa0_2, ca0_2, rfl, hca0_2, hda0_2, ha0_2⟩ := ha0_2.shape
  refine T.seq ?_
  refine T.region ?_
  refine R.box rfl (by conv => lhs; whnf) ?_
  intro b2
  refine R.asE rfl (by conv => lhs; whnf) ?_
  refine TL.shut .hd ?_
  intro Hb2_1 sb2_1 qb2_1
  have hb2_1 : Hb2_1 b2 = some (.cells #[.int .i64 (a0.1), .slice Aa0_1 a0.2.1.length ca0_1, .slice Aa0_2 a0.2.2.length ca0_2] 25) := shut1 qb2_1
  refine TL.nil (Post.thnN ?_)
  refine T.seq ?_
  refine T.region ?_
  refine R.ldXH (cs := [.int .i64 (a0.1), .slice Aa0_1 a0.2.1.length ca0_1, .slice Aa0_2 a0.2.2.length ca0_2]) (l := [.int .i64 (a0.1), .slice Aa0_1 a0.2.1.length ca0_1, .slice Aa0_2 a0.2.2.length ca0_2]) Tryd.isAgg25 Tryd.sizeOf25 rfl rfl hb2_1 rfl rfl ?_
  refine R.callv rfl rfl rfl (alloc_Check_c _ (sb2_1 _ _ hG0) a0 _ (ha0_1.mono sb2_1) _ (ha0_2.mono sb2_1) (by first | omega | (simp; done) | (simp; omega) | (simp at *; omega)) (by first | omega | (simp; done) | (simp; omega) | (simp at *; omega))) ?_
  refine R.eql rfl rfl rfl ?_
  refine R.mvE rfl (by conv => lhs; whnf) ?_
  refine TL.gsplitD 8 rfl (fun g8 => ?_) (fun g8 => ?_)
  · refine R.ldXH (cs := [.int .i64 (a0.1), .slice Aa0_1 a0.2.1.length ca0_1, .slice Aa0_2 a0.2.2.length ca0_2]) (l := [.int .i64 (a0.1), .slice Aa0_1 a0.2.1.length ca0_1, .slice Aa0_2 a0.2.2.length ca0_2]) Tryd.isAgg25 Tryd.sizeOf25 rfl rfl hb2_1 rfl rfl ?_
    refine R.mvE rfl (by conv => lhs; whnf) ?_
    refine R.callv rfl rfl rfl (alloc_alive_c _ a0 _ (ha0_1.mono sb2_1) _ (ha0_2.mono sb2_1) (a1) (by first | omega | (simp; done) | (simp; omega) | (simp at *; omega)) (by first | omega | (simp; done) | (simp; omega) | (simp at *; omega))) ?_
    refine R.pkTE rfl rfl (by conv => lhs; whnf) ?_
    refine R.asE rfl (by conv => lhs; whnf) ?_
    refine TL.nil (Post.thnN ?_)
    refine T.has Has.nil ?_
    refine T.ret ?_
    have hM : alloc_Alive_m a0 a1 = (alloc_alive_m a0 a1) := by rw [alloc_Alive_m, if_pos g8]
    exact fin1L (v := .bool ((alloc_alive_m a0 a1))) [] rfl rfl (List.Sublist.refl _) ⟨rfl, by first | rw [hM] | rfl⟩
  · refine TL.off rfl rfl rfl ?_
    refine TL.off rfl rfl rfl ?_
    refine TL.off rfl rfl rfl ?_
    refine R.pkFE rfl rfl (by conv => lhs; whnf) ?_
    refine R.asE rfl (by conv => lhs; whnf) ?_
    refine TL.nil (Post.thnN ?_)
    refine T.has Has.nil ?_
    refine T.ret ?_
    have hM : alloc_Alive_m a0 a1 = false := by rw [alloc_Alive_m, if_neg g8]
    exact fin1L (v := .bool false) [] rfl rfl (List.Sublist.refl _) ⟨rfl, by first | rw [hM] | rfl⟩

def alloc_At_m (a0 : Int × (List (Int × Bool)) × (List Int)) (a1 : Int) : Int × Bool :=
  LR.seq (if ((alloc_Check_m a0) : Int) ≠ 0 then true else (if a1 < 1 then true else (if (a0.2.1.length : Int) < a1 then true else (!(a0.2.1.getD (((a1 - 1)).toNat) (((0, false) : Int × Bool) : Int × Bool)).2))) : Bool) (fun sc1 => if sc1 = true then ((0, false)) else (LR.seq (ident_Entity_m a1 (a0.2.1.getD (((a1 - 1)).toNat) (((0, false) : Int × Bool) : Int × Bool)).1) (fun r41 => (r41.1, (decide (r41.2 = 0))))))
def alloc_All_r1  : List (Int × (Int × Bool)) → ((List Int)) → (List Int)
  | [], sr1 => sr1
  | yr1 :: ysr1, sr1 => LR.seq (ident_Entity_m yr1.1 yr1.2.1) (fun r19 => alloc_All_r1 ysr1 ((sr1 ++ [r19.1])))
def alloc_All_m (a0 : Int × (List (Int × Bool)) × (List Int)) : (List Int) :=
  if ((alloc_Check_m a0) : Int) ≠ 0 then [] else (LR.seq (alloc_living_m a0) (fun r12 => LR.seq (alloc_All_r1 r12 []) (fun or1 => or1)))
set_option maxHeartbeats 3200000 in
theorem alloc_All_c (H : Heap) {tG0 : TypeId} (hG0 : H 0 = some (.cells #[.int .i64 0, .bool true] tG0)) (a0 : Int × (List (Int × Bool)) × (List Int)) (va0_1 : Value) (ha0_1 : RdS slotE H va0_1 a0.2.1) (va0_2 : Value) (ha0_2 : RdS (intE .i64) H va0_2 a0.2.2) (hs : a0.2.1.length ≤ 2000000) (hf : a0.2.2.length ≤ 2000000) : Fc Tryd.prog (fnv 27) [.agg #[.int .i64 a0.1, va0_1, va0_2]] H [] (fun v' H' L' => ∃ u0_0 c0_0, v' = u0_0 ∧ L' = [c0_0] ∧ OwnS (intE .u64) 32 H' u0_0 (alloc_All_m a0) c0_0) := by
  refine Fc.of_body (N := 27) Tryd.func27 rfl (by kernel_rfl) rfl rfl ?_
  intro w0
  obtain ⟨Aa0_1, ca0_1, rfl, hca0_1, hda0_1, ha0_1⟩ := ha0_1.shape
  obtain ⟨Aa0_2, ca0_2, rfl, hca0_2, hda0_2, ha0_2⟩ := ha0_2.shape
  refine T.seq ?_
  refine T.region ?_
  refine R.box rfl (by conv => lhs; whnf) ?_
  intro b1
  refine R.asE rfl (by conv => lhs; whnf) ?_
  refine TL.shut .hd ?_
  intro Hb1_1 sb1_1 qb1_1
  have hb1_1 : Hb1_1 b1 = some (.cells #[.int .i64 (a0.1), .slice Aa0_1 a0.2.1.length ca0_1, .slice Aa0_2 a0.2.2.length ca0_2] 25) := shut1 qb1_1
  refine TL.nil (Post.thnN ?_)
  refine T.seq ?_
  refine T.seq ?_
  refine T.region ?_
  refine R.ldXH (cs := [.int .i64 (a0.1), .slice Aa0_1 a0.2.1.length ca0_1, .slice Aa0_2 a0.2.2.length ca0_2]) (l := [.int .i64 (a0.1), .slice Aa0_1 a0.2.1.length ca0_1, .slice Aa0_2 a0.2.2.length ca0_2]) Tryd.isAgg25 Tryd.sizeOf25 rfl rfl hb1_1 rfl rfl ?_
  refine R.callv rfl rfl rfl (alloc_Check_c _ (sb1_1 _ _ hG0) a0 _ (ha0_1.mono sb1_1) _ (ha0_2.mono sb1_1) (by first | omega | (simp; done) | (simp; omega) | (simp at *; omega)) (by first | omega | (simp; done) | (simp; omega) | (simp at *; omega))) ?_
  refine R.neq rfl rfl rfl ?_
  refine TL.nil (Post.thnN ?_)
  refine T.condD rfl (fun c10 => ?_) (fun c10 => ?_)
  · refine T.set 10 (.bool true) (congrArg Value.bool (decide_eq_true c10)) ?_
    refine T.seq ?_
    refine T.region ?_
    refine R.asE rfl (by conv => lhs; whnf) ?_
    refine TL.nil (Post.thnN ?_)
    refine T.has (Has.none Has.nil) ?_
    refine T.ret (Post.thnR ?_)
    have hM : alloc_All_m a0 = [] := by rw [alloc_All_m, if_pos c10]
    exact fin1L (v := .slice none 0 0) [[]] rfl rfl (List.Sublist.refl _) ⟨.slice none 0 0, [], by first | rw [hM] | rfl, rfl, by rw [hM]; exact OwnS.nil⟩
  · refine T.set 10 (.bool false) (congrArg Value.bool (decide_eq_false c10)) ?_
    refine T.skip (Post.thnN ?_)
    refine T.seq ?_
    refine T.region ?_
    refine R.alloc Tryd.zeroValue29 rfl ?_
    intro b3
    refine TL.nil (Post.thnN ?_)
    refine T.seq ?_
    refine T.seq ?_
    refine T.region ?_
    refine R.ldXH (cs := [.int .i64 (a0.1), .slice Aa0_1 a0.2.1.length ca0_1, .slice Aa0_2 a0.2.2.length ca0_2]) (l := [.int .i64 (a0.1), .slice Aa0_1 a0.2.1.length ca0_1, .slice Aa0_2 a0.2.2.length ca0_2]) Tryd.isAgg25 Tryd.sizeOf25 rfl rfl hb1_1 rfl rfl ?_
    obtain ⟨r12, er12⟩ : ∃ r, r = (alloc_living_m a0) := ⟨_, rfl⟩
    refine R.callp rfl rfl rfl (alloc_living_c _ a0 _ (ha0_1.mono sb1_1) _ (ha0_2.mono sb1_1)) ?_
    intro v12 H12 s12 q12
    rw [← er12] at q12
    obtain ⟨u12_0_0, rfl, w12_0_0⟩ := q12
    have tl12 := living_len _ _ er12
    refine TL.nil (Post.thnN ?_)
    refine T.block ?_
    refine T.rangeFunc (xs := r12) rfl rfl (enters_of Tryd.func112 (by kernel_rfl) rfl) w12_0_0 (fun _ _ _ h => by subst h; rfl) rfl (fun pre H' L' => ∃ (vb3r1_0 : Value) (xb3r1_0 : List Int) (cb3r1_0 : Chunk), Has L' [[(b3, .cells #[vb3r1_0] 29)], cb3r1_0] ∧ OwnS (intE .u64) 32 H' vb3r1_0 xb3r1_0 cb3r1_0 ∧ xb3r1_0.length ≤ pre.length ∧ alloc_All_r1 (r12.drop pre.length) xb3r1_0 = alloc_All_r1 r12 []) (fun _ _ _ _ => False) (fun pre H H' L hle ⟨vb3r1_0, xb3r1_0, cb3r1_0, hL, wb3r1_0, hB0, hQ⟩ => ⟨vb3r1_0, xb3r1_0, cb3r1_0, hL, (wb3r1_0.mono hle), hB0, hQ⟩) (fun _ _ _ _ _ _ h => h) ?_ ?_ ?_ ?_
    · exact ⟨.slice none 0 0, [], [], (Has.cons .hd (Has.none Has.nil)), OwnS.nil, (by first | omega | (simp; done) | (simp; omega) | (simp at *; omega)), (by rfl)⟩
    · intro lr1 rr1 wr1 prer1 yr1 vsr1 Hr1 Lr1 sr1 hpr1 hIr1 hYr1
      obtain ⟨vb3r1_0, xb3r1_0, cb3r1_0, hLr1, wb3r1_0, hBr1_0, hQr1⟩ := hIr1
      obtain ⟨Ab3r1_0, pb3r1_0, rfl, mb3r1_0, nb3r1_0_⟩ := OwnS.shape wb3r1_0
      obtain rfl := hYr1
      refine T.has hLr1 ?_
      have hlpr1 : prer1.length + 1 ≤ r12.length := by have h0 := hpr1.length_le; simpa using h0
      refine T.seq ?_
      refine T.region ?_
      refine R.asE rfl (by conv => lhs; whnf) ?_
      refine TL.nil (Post.thnN ?_)
      refine T.region ?_
      refine R.alloc Tryd.zeroValue101 rfl ?_
      intro b5
      refine R.stX (old := [.int .i64 0, .bool false]) (l := [.int .i64 (yr1.2.1), .bool (yr1.2.2)]) (new := [.int .i64 (yr1.2.1), .bool (yr1.2.2)]) (et := 101) Tryd.sizeOf101 rfl rfl rfl rfl rfl (by show 0 + 2 ≤ 2; decide) rfl (all_one rfl) .hd ?_
      refine TL.shut .hd ?_
      intro Hb5_2 sb5_2 qb5_2
      have hb5_2 : Hb5_2 b5 = some (.cells #[.int .i64 (yr1.2.1), .bool (yr1.2.2)] 101) := shut1 qb5_2
      refine TL.nil ?_
      refine onlyN.mk ?_
      refine T.block ?_
      refine T.seq ?_
      refine T.region ?_
      refine R.mvE rfl (by conv => lhs; whnf) ?_
      refine R.fldA Tryd.underlying101 rfl Tryd.sizeOf3 (by decide) rfl rfl ?_
      refine R.ldH Tryd.isAgg3 rfl rfl hb5_2 rfl ?_
      obtain ⟨r19, er19⟩ : ∃ r, r = (ident_Entity_m yr1.1 yr1.2.1) := ⟨_, rfl⟩
      refine R.callv (v := .tuple #[.int .u64 r19.1, .int .i64 r19.2]) rfl rfl rfl (by rw [er19]; exact ident_Entity_c _ (yr1.1) (yr1.2.1)) ?_
      refine R.mvE rfl (by conv => lhs; whnf) ?_
      refine R.ext rfl rfl rfl ?_
      refine R.ext rfl rfl rfl ?_
      refine R.asE rfl (by conv => lhs; whnf) ?_
      refine R.asE rfl (by conv => lhs; whnf) ?_
      refine TL.nil (Post.thnN ?_)
      refine T.region ?_
      refine R.ld Tryd.isAgg29 rfl rfl .hd rfl ?_
      refine R.mvE rfl (by conv => lhs; whnf) ?_
      refine R.bs rfl (run_buildSlice1 Tryd.underlying29 Tryd.sizeOf32 Tryd.zeroValue32 rfl rfl) ?_
      intro b24
      have w24 : OwnS (intE .u64) 32 Hb5_2 (.slice (some ⟨b24, 0, none⟩) 1 1) [r19.1] [(b24, .cells #[.int .u64 (r19.1)] 32)] := OwnS.lit (xs := [r19.1]) (cellsOf_cons (a := [.int .u64 (r19.1)]) rfl cellsOf_nil) (by show 1 ≤ maxLen; decide)
      obtain ⟨k25, y25, r25⟩ := Src.ownA w24
      refine R.app (E := (intE .u64)) (e := 32) (xs := xb3r1_0) (ys := [r19.1]) Tryd_ty29 rfl rfl rfl (OwnS.mono wb3r1_0 sb5_2) (.tl (.tl .hd)) (r25 _ .hd) y25 (by (try simp only [List.length_append, List.length_cons, List.length_nil, List.length_replicate, List.length_take, List.length_drop]); omega) (by (try simp only [List.length_append, List.length_cons, List.length_nil, List.length_replicate, List.length_take, List.length_drop]); omega) ?_
      intro v25 c25 w25
      obtain ⟨A25, p25, rfl, m25, n25⟩ := OwnS.shape w25
      refine TL.del (.tl .hd) ?_
      refine R.stX (old := [.slice Ab3r1_0 xb3r1_0.length pb3r1_0]) (l := [.slice A25 (xb3r1_0 ++ [r19.1]).length p25]) (new := [.slice A25 (xb3r1_0 ++ [r19.1]).length p25]) (et := 29) Tryd.sizeOf29 rfl rfl rfl (cells1 rfl) rfl (by show 0 + 1 ≤ 1; decide) rfl (all_one rfl) (.tl .hd) ?_
      refine TL.nil (Post.blkN ?_)
      refine id ?_
      exact ⟨.slice A25 (xb3r1_0 ++ [r19.1]).length p25, (xb3r1_0 ++ [r19.1]), c25, (Has.cons (.tl .hd) (Has.cons .hd Has.nil)), w25, (by first | omega | (simp; done) | (simp; omega) | (simp at *; omega)), (by subst er19; rw [← hQr1, drop_pre hpr1, alloc_All_r1]; rw [LR.seq_go])⟩
    · intro Dr1 Hr1 Lr1 sr1 hIr1
      obtain ⟨vb3r1_0, xb3r1_0, cb3r1_0, hLr1, wb3r1_0, hBr1_0, hQr1⟩ := hIr1
      obtain ⟨Ab3r1_0, pb3r1_0, rfl, mb3r1_0, nb3r1_0_⟩ := OwnS.shape wb3r1_0
      have hEr1 : alloc_All_r1 r12 [] = xb3r1_0 := by rw [← hQr1, List.drop_length, alloc_All_r1]
      refine id (Post.blkN ?_)
      refine id (Post.thnN ?_)
      refine T.has hLr1 ?_
      refine T.seq ?_
      refine T.region ?_
      refine R.ld Tryd.isAgg29 rfl rfl .hd rfl ?_
      refine R.asE rfl (by conv => lhs; whnf) ?_
      refine TL.nil (Post.thnN ?_)
      refine T.has (Has.cons (.tl .hd) Has.nil) ?_
      refine T.ret ?_
      have hM : alloc_All_m a0 = xb3r1_0 := by subst er12; rw [alloc_All_m, if_neg c10, LR.seq_go, hEr1, LR.seq_go]
      exact fin1L (v := .slice Ab3r1_0 xb3r1_0.length pb3r1_0) [cb3r1_0] rfl rfl (List.Sublist.refl _) ⟨.slice Ab3r1_0 xb3r1_0.length pb3r1_0, cb3r1_0, by first | rw [hM] | rfl, rfl, by rw [hM]; exact wb3r1_0⟩
    · intro Dr1 cr1 prer1 yr1 Hr1 Lr1 sr1 hpr1 hIr1
      exact hIr1.elim

end Go.SX

set_option linter.unusedVariables false
set_option linter.unusedSimpArgs false
namespace Go.SX
open Go Go.Proofs

def windroseref02_Take_m (a0 : Int × (List (Int × Bool)) × (List Int)) : (Int × (List (Int × Bool)) × (List Int)) × Int × Int :=
  if ((windroseref02_alive_m a0) : Int) = a0.1 then ((((0, [], []) : Int × (List (Int × Bool)) × (List Int)), 0, 6)) else (if (0 : Int) < (a0.2.2.length : Int) then (((a0.1, (a0.2.1.set ((((a0.2.2.getD ((((a0.2.2.length : Int) - 1)).toNat) (0 : Int)) - 1)).toNat) (((IntKind.i64.wrap ((a0.2.1.getD ((((a0.2.2.getD ((((a0.2.2.length : Int) - 1)).toNat) (0 : Int)) - 1)).toNat) (((0, false) : Int × Bool) : Int × Bool)).1 + 1)), true))), (a0.2.2.take ((((a0.2.2.length : Int) - 1)).toNat))), (windroseref02_Entity_m (a0.2.2.getD ((((a0.2.2.length : Int) - 1)).toNat) (0 : Int)) (((a0.2.1.set ((((a0.2.2.getD ((((a0.2.2.length : Int) - 1)).toNat) (0 : Int)) - 1)).toNat) (((IntKind.i64.wrap ((a0.2.1.getD ((((a0.2.2.getD ((((a0.2.2.length : Int) - 1)).toNat) (0 : Int)) - 1)).toNat) (((0, false) : Int × Bool) : Int × Bool)).1 + 1)), true)))).getD ((((a0.2.2.getD ((((a0.2.2.length : Int) - 1)).toNat) (0 : Int)) - 1)).toNat) (((0, false) : Int × Bool) : Int × Bool)).1), 0)) else (if (a0.2.1.length : Int) < (IntKind.i64.wrap (a0.1 + 2)) then (LR.seq (windroseref02_Entity_m (((a0.2.1 ++ [((0, true) : Int × Bool)]).length : Int)) 0) (fun r79 => (((a0.1, (a0.2.1 ++ [((0, true) : Int × Bool)]), []) : Int × (List (Int × Bool)) × (List Int)), r79, 0))) else ((((0, [], []) : Int × (List (Int × Bool)) × (List Int)), 0, 121))))
set_option maxHeartbeats 3200000 in
theorem windroseref02_Take_c (H : Heap) (a0 : Int × (List (Int × Bool)) × (List Int)) (va0_1 : Value) (ha0_1 : RdS slotE H va0_1 a0.2.1) (va0_2 : Value) (ha0_2 : RdS (intE .i64) H va0_2 a0.2.2) (hr : Rt a0) : Fc Tryd.prog (fnv 17) [.agg #[.int .i64 a0.1, va0_1, va0_2]] H [] (fun v' H' L' => ∃ u0_1 u0_2 c0_1 c0_2, v' = .tuple #[.agg #[.int .i64 (windroseref02_Take_m a0).1.1, u0_1, u0_2], .int .u64 (windroseref02_Take_m a0).2.1, .int .i64 (windroseref02_Take_m a0).2.2] ∧ L' = [c0_1, c0_2] ∧ OwnS slotE 101 H' u0_1 (windroseref02_Take_m a0).1.2.1 c0_1 ∧ OwnS (intE .i64) 3 H' u0_2 (windroseref02_Take_m a0).1.2.2 c0_2) := by
  refine Fc.of_body (N := 81) Tryd.func17 rfl (by kernel_rfl) rfl rfl ?_
  intro w0
  obtain ⟨Aa0_1, ca0_1, rfl, hca0_1, hda0_1, ha0_1⟩ := ha0_1.shape
  obtain ⟨Aa0_2, ca0_2, rfl, hca0_2, hda0_2, ha0_2⟩ := ha0_2.shape
  have hs := hr.n2
  have hm := hr.m2
  have hf := hr.flen
  refine T.seq ?_
  refine T.region ?_
  refine R.box rfl (by conv => lhs; whnf) ?_
  intro b1
  refine R.alloc Tryd.zeroValue25 rfl ?_
  intro b2
  refine R.asE rfl (by conv => lhs; whnf) ?_
  refine R.asE rfl (by conv => lhs; whnf) ?_
  refine TL.shut (.tl .hd) ?_
  intro Hb1_1 sb1_1 qb1_1
  have hb1_1 : Hb1_1 b1 = some (.cells #[.int .i64 (a0.1), .slice Aa0_1 a0.2.1.length ca0_1, .slice Aa0_2 a0.2.2.length ca0_2] 25) := shut1 qb1_1
  refine TL.nil (Post.thnN ?_)
  refine T.seq ?_
  refine T.region ?_
  refine R.fldA Tryd.underlying25 rfl Tryd.sizeOf23 (by decide) rfl rfl ?_
  refine R.ldH Tryd.isAgg23 rfl rfl hb1_1 rfl ?_
  refine R.len Tryd.underlying23 rfl rfl ?_
  refine R.asE rfl (by conv => lhs; whnf) ?_
  refine TL.nil (Post.thnN ?_)
  refine T.seq ?_
  refine T.region ?_
  refine R.bs0 (E := slotE) rfl Tryd.underlying22 Tryd.sizeOf101 ?_
  intro v11 c11 w11
  obtain ⟨A11, p11, rfl, m11, n11⟩ := w11.shape
  refine R.fldA Tryd.underlying25 rfl Tryd.sizeOf22 (by decide) rfl rfl ?_
  refine R.ldH Tryd.isAgg22 rfl rfl hb1_1 rfl ?_
  obtain ⟨k14, y14, r14⟩ := Src.rdA (ha0_1.mono sb1_1)
  refine R.app (E := slotE) (e := 101) (xs := []) (ys := a0.2.1) Tryd_ty22 rfl rfl rfl w11 .hd (r14 _) y14 (by (try simp only [List.length_append, List.length_cons, List.length_nil, List.length_replicate, List.length_take, List.length_drop]); omega) (by (try simp only [List.length_append, List.length_cons, List.length_nil, List.length_replicate, List.length_take, List.length_drop]); omega) ?_
  intro v14 c14 w14
  have w14 : OwnS slotE 101 Hb1_1 v14 a0.2.1 c14 := w14
  obtain ⟨A14, p14, rfl, m14, n14⟩ := OwnS.shape w14
  refine R.asE rfl (by conv => lhs; whnf) ?_
  refine TL.nil (Post.thnN ?_)
  refine T.seq ?_
  refine T.block ?_
  refine T.seq ?_
  refine T.draw Tryd_mixed (by kernel_rfl) ?_
  refine Plan.v 0 [1, 2, 3, 4, 5] (by kernel_rfl) (by kernel_rfl) (by kernel_rfl) (by kernel_rfl) rfl (fun _ _ h_ => R.ldXH (cs := [.int .i64 (a0.1), .slice Aa0_1 a0.2.1.length ca0_1, .slice Aa0_2 a0.2.2.length ca0_2]) (l := [.int .i64 (a0.1), .slice Aa0_1 a0.2.1.length ca0_1, .slice Aa0_2 a0.2.2.length ca0_2]) Tryd.isAgg25 Tryd.sizeOf25 rfl rfl hb1_1 rfl rfl (TL.nil h_)) ?_
  refine Plan.v 1 [2, 3, 4, 5] (by kernel_rfl) (by kernel_rfl) (by kernel_rfl) (by kernel_rfl) rfl (fun _ _ h_ => R.callv rfl rfl rfl (windroseref02_alive_c _ a0 _ (ha0_1.mono sb1_1) _ (ha0_2.mono sb1_1)) (TL.nil h_)) ?_
  refine Plan.v 2 [3, 4, 5] (by kernel_rfl) (by kernel_rfl) (by kernel_rfl) (by kernel_rfl) rfl (fun _ _ h_ => R.fldA Tryd.underlying25 rfl Tryd.sizeOf3 (by decide) rfl rfl (TL.nil h_)) ?_
  refine Plan.v 3 [4, 5] (by kernel_rfl) (by kernel_rfl) (by kernel_rfl) (by kernel_rfl) rfl (fun _ _ h_ => R.ldH Tryd.isAgg3 rfl rfl hb1_1 rfl (TL.nil h_)) ?_
  refine Plan.v 4 [5] (by kernel_rfl) (by kernel_rfl) (by kernel_rfl) (by kernel_rfl) rfl (fun _ _ h_ => R.eql rfl rfl rfl (TL.nil h_)) ?_
  refine Plan.v 5 [] (by kernel_rfl) (by kernel_rfl) (by kernel_rfl) (by kernel_rfl) rfl (fun _ _ h_ => R.asE rfl (by conv => lhs; whnf) (TL.nil h_)) ?_
  refine Plan.done (Post.thnN ?_)
  refine T.condD rfl (fun c15 => ?_) (fun c15 => ?_)
  · refine T.set 15 (.bool true) (congrArg Value.bool (decide_eq_true c15)) ?_
    refine T.seq ?_
    refine T.region ?_
    refine R.bld (cs := [.int .i64 0, .slice none 0 0, .slice none 0 0]) rfl (fun _ => by kernel_rfl) ?_
    refine R.stX (old := [.int .i64 0, .slice none 0 0, .slice none 0 0]) (l := [.int .i64 0, .slice none 0 0, .slice none 0 0]) (new := [.int .i64 0, .slice none 0 0, .slice none 0 0]) (et := 25) Tryd.sizeOf25 rfl rfl rfl rfl rfl (by show 0 + 3 ≤ 3; decide) rfl (all_one rfl) (.tl .hd) ?_
    refine R.asE rfl (by conv => lhs; whnf) ?_
    refine R.asE rfl (by conv => lhs; whnf) ?_
    refine TL.nil (Post.thnN ?_)
    refine T.has (Has.none (Has.none (Has.cons (.tl .hd) Has.nil))) ?_
    refine T.ret (Post.blkR (Post.thnR ?_))
    have hM : windroseref02_Take_m a0 = (((0, [], []) : Int × (List (Int × Bool)) × (List Int)), 0, 6) := by rw [windroseref02_Take_m, if_pos c15]
    exact finR3 (v := .agg #[.int .i64 0, .slice none 0 0, .slice none 0 0]) (v' := .int .u64 0) (v'' := .int .i64 6) [[], []] rfl (.cellA (cs := [.int .i64 0, .slice none 0 0, .slice none 0 0]) (l := [.int .i64 0, .slice none 0 0, .slice none 0 0]) Tryd.isAgg25 Tryd.sizeOf25 rfl (.tl (.tl .hd)) rfl rfl) (.tmp rfl) (.tmp rfl) (List.sublist_append_left ([[], []] : Own) _) ⟨.slice none 0 0, .slice none 0 0, [], [], by first | rw [hM] | rfl, rfl, by rw [hM]; exact OwnS.nil, by rw [hM]; exact OwnS.nil⟩
  · refine T.set 15 (.bool false) (congrArg Value.bool (decide_eq_false c15)) ?_
    refine T.seq ?_
    refine T.region ?_
    refine R.mvE rfl (by conv => lhs; whnf) ?_
    refine R.gtr rfl rfl rfl ?_
    refine R.asE rfl (by conv => lhs; whnf) ?_
    refine TL.nil (Post.thnN ?_)
    refine T.condD rfl (fun c22 => ?_) (fun c22 => ?_)
    · refine T.set 22 (.bool true) (congrArg Value.bool (decide_eq_true c22)) ?_
      refine T.seq ?_
      refine T.region ?_
      refine R.fldA Tryd.underlying25 rfl Tryd.sizeOf23 (by decide) rfl rfl ?_
      refine R.ldH Tryd.isAgg23 rfl rfl hb1_1 rfl ?_
      refine R.mvE rfl (by conv => lhs; whnf) ?_
      refine R.subI rfl rfl rfl (by omega) ?_
      have hl29 : (((a0.2.2.length : Int) - 1)).toNat < a0.2.2.length := by first | omega | (simp; done) | (simp; omega) | (simp at *; omega)
      obtain ⟨y29, e29, h29⟩ : ∃ y, y = (a0.2.2.getD ((((a0.2.2.length : Int) - 1)).toNat) (0 : Int)) ∧ a0.2.2[(((a0.2.2.length : Int) - 1)).toNat]? = some y := ⟨_, rfl, getD_get (by first | exact hl29 | simpa using hl29 | (rw [(sortI_perm _).length_eq]; exact hl29))⟩
      obtain ⟨b29, o29, i29, k29⟩ := RdS.elem (ha0_2.mono sb1_1) h29
      obtain ⟨l29, g29, k29⟩ := k29
      obtain rfl : l29 = [.int .i64 y29] := g29
      refine R.ixp Tryd.underlying23 Tryd.sizeOf3 rfl rfl rfl (by first | omega | (simp; done) | (simp; omega) | (simp at *; omega)) i29 ?_
      refine R.ldC Tryd.isAgg3 rfl rfl (k29 0 _ rfl) ?_
      refine R.asE rfl (by conv => lhs; whnf) ?_
      refine TL.nil (Post.thnN ?_)
      refine T.seq ?_
      have hidx := hr.free_rng (x := y29) (List.mem_of_getElem? h29)
      refine T.region ?_
      refine R.mvE rfl (by conv => lhs; whnf) ?_
      refine R.mvE rfl (by conv => lhs; whnf) ?_
      refine R.subI rfl rfl rfl (by omega) ?_
      refine R.mvE rfl (by conv => lhs; whnf) ?_
      refine R.mvE rfl (by conv => lhs; whnf) ?_
      refine R.subI rfl rfl rfl (by omega) ?_
      have hl37 : ((y29 - 1)).toNat < a0.2.1.length := by first | omega | (simp; done) | (simp; omega) | (simp at *; omega)
      obtain ⟨y37, e37, h37⟩ : ∃ y, y = (a0.2.1.getD (((y29 - 1)).toNat) (((0, false) : Int × Bool) : Int × Bool)) ∧ a0.2.1[((y29 - 1)).toNat]? = some y := ⟨_, rfl, getD_get (by first | exact hl37 | simpa using hl37 | (rw [(sortI_perm _).length_eq]; exact hl37))⟩
      obtain ⟨b37, u37, cs37, l37, f37, j37, i37, g37, k37⟩ := OwnS.elem w14 h37
      obtain rfl : l37 = [.int .i64 (y37.1), .bool (y37.2)] := g37
      refine R.ixp (sz := (slotE).size) Tryd.underlying22 Tryd.sizeOf101 rfl rfl rfl (by first | omega | (simp; done) | (simp; omega) | (simp at *; omega)) i37 ?_
      refine R.fldA Tryd.underlying101 rfl Tryd.sizeOf3 (by decide) rfl rfl ?_
      refine R.ld Tryd.isAgg3 rfl rfl (by rw [← f37]; exact .hd) (k37 0 _ rfl) ?_
      refine R.add rfl rfl rfl ?_
      refine R.bld (cs := [.int .i64 (IntKind.i64.wrap (y37.1 + 1)), .bool true]) rfl (fun _ => by kernel_rfl) ?_
      have hl42 : ((y29 - 1)).toNat < a0.2.1.length := by first | omega | (simp; done) | (simp; omega) | (simp at *; omega)
      obtain ⟨y42, e42, h42⟩ : ∃ y, y = (a0.2.1.getD (((y29 - 1)).toNat) (((0, false) : Int × Bool) : Int × Bool)) ∧ a0.2.1[((y29 - 1)).toNat]? = some y := ⟨_, rfl, getD_get (by first | exact hl42 | simpa using hl42 | (rw [(sortI_perm _).length_eq]; exact hl42))⟩
      obtain ⟨b42, u42, cs42, l42, f42, j42, i42, g42, k42⟩ := OwnS.elem w14 h42
      obtain rfl : l42 = [.int .i64 (y42.1), .bool (y42.2)] := g42
      refine R.ixp (sz := (slotE).size) Tryd.underlying22 Tryd.sizeOf101 rfl rfl rfl (by first | omega | (simp; done) | (simp; omega) | (simp at *; omega)) i42 ?_
      refine R.stEF (E := slotE) (e := 101) (v := (.slice A14 a0.2.1.length p14)) (m := [.int .i64 (IntKind.i64.wrap (y37.1 + 1)), .bool true]) (o := 0) (y := y42) (y' := ((IntKind.i64.wrap (y37.1 + 1)), true)) (j := ((y29 - 1)).toNat) Tryd.sizeOf101 rfl w14 .hd i42 rfl rfl rfl (all_one rfl) h42 (by show 0 + 2 ≤ 2; decide) (fun l hl => by have e0 : l = [.int .i64 (y42.1), .bool (y42.2)] := hl; subst e0; exact rfl) ?_
      intro cst2 wst2
      refine TL.nil (Post.thnN ?_)
      refine T.seq ?_
      refine T.draw Tryd_mixed (by kernel_rfl) ?_
      refine Plan.v 0 [1, 2, 3, 4, 5, 6, 7, 8, 9, 10, 11, 12, 13, 14, 15, 16, 17, 18, 19, 20, 21] (by kernel_rfl) (by kernel_rfl) (by kernel_rfl) (by kernel_rfl) rfl (fun _ _ h_ => R.fldA Tryd.underlying25 rfl Tryd.sizeOf3 (by decide) rfl rfl (TL.nil h_)) ?_
      refine Plan.v 1 [2, 3, 4, 5, 6, 7, 8, 9, 10, 11, 12, 13, 14, 15, 16, 17, 18, 19, 20, 21] (by kernel_rfl) (by kernel_rfl) (by kernel_rfl) (by kernel_rfl) rfl (fun _ _ h_ => R.ldH Tryd.isAgg3 rfl rfl hb1_1 rfl (TL.nil h_)) ?_
      refine Plan.v 2 [3, 4, 5, 6, 7, 8, 9, 10, 11, 12, 13, 14, 15, 16, 17, 18, 19, 20, 21] (by kernel_rfl) (by kernel_rfl) (by kernel_rfl) (by kernel_rfl) rfl (fun _ _ h_ => R.mvE rfl (by conv => lhs; whnf) (TL.nil h_)) ?_
      refine Plan.v 4 [3, 5, 6, 7, 8, 9, 10, 11, 12, 13, 14, 15, 16, 17, 18, 19, 20, 21] (by kernel_rfl) (by kernel_rfl) (by kernel_rfl) (by kernel_rfl) rfl (fun _ _ h_ => R.fldA Tryd.underlying25 rfl Tryd.sizeOf23 (by decide) rfl rfl (TL.nil h_)) ?_
      refine Plan.v 5 [3, 6, 7, 8, 9, 10, 11, 12, 13, 14, 15, 16, 17, 18, 19, 20, 21] (by kernel_rfl) (by kernel_rfl) (by kernel_rfl) (by kernel_rfl) rfl (fun _ _ h_ => R.ldH Tryd.isAgg23 rfl rfl hb1_1 rfl (TL.nil h_)) ?_
      refine Plan.v 6 [3, 7, 8, 9, 10, 11, 12, 13, 14, 15, 16, 17, 18, 19, 20, 21] (by kernel_rfl) (by kernel_rfl) (by kernel_rfl) (by kernel_rfl) rfl (fun _ _ h_ => R.mvE rfl (by conv => lhs; whnf) (TL.nil h_)) ?_
      refine Plan.v 7 [3, 8, 9, 10, 11, 12, 13, 14, 15, 16, 17, 18, 19, 20, 21] (by kernel_rfl) (by kernel_rfl) (by kernel_rfl) (by kernel_rfl) rfl (fun _ _ h_ => R.subI rfl rfl rfl (by omega) (TL.nil h_)) ?_
      have z51 := RdS.takeC (ha0_2.mono sb1_1) (i := (((a0.2.2.length : Int) - 1)).toNat) (by omega) (by omega)
      obtain ⟨x51, e51⟩ : ∃ x, x = (a0.2.2.take ((((a0.2.2.length : Int) - 1)).toNat)) := ⟨_, rfl⟩
      rw [← e51] at z51
      obtain ⟨A51, p51, q51, m51, n51, r51⟩ := RdS.shape z51
      have t51 : x51.length ≤ a0.2.2.length := by rw [e51]; simp; try omega
      have t51_ : x51.length = min ((((a0.2.2.length : Int) - 1)).toNat) a0.2.2.length := by rw [e51]; simp
      refine Plan.v 8 [3, 9, 10, 11, 12, 13, 14, 15, 16, 17, 18, 19, 20, 21] (by kernel_rfl) (by kernel_rfl) (by kernel_rfl) (by kernel_rfl) rfl (fun _ _ h_ => R.sH Tryd.underlying23 Tryd.sizeOf3 rfl rfl rfl (by omega) (by omega)  (TL.nil h_)) ?_
      refine Plan.set 51 (.slice A51 x51.length p51) (by first | exact q51 | (rw [← q51]; simp; done) | (rw [← q51]; rfl)) ?_
      refine Plan.v 11 [3, 9, 10, 12, 13, 14, 15, 16, 17, 18, 19, 20, 21] (by kernel_rfl) (by kernel_rfl) (by kernel_rfl) (by kernel_rfl) rfl (fun _ _ h_ => R.mvE rfl (by conv => lhs; whnf) (TL.nil h_)) ?_
      refine Plan.v 12 [3, 9, 10, 13, 14, 15, 16, 17, 18, 19, 20, 21] (by kernel_rfl) (by kernel_rfl) (by kernel_rfl) (by kernel_rfl) rfl (fun _ _ h_ => R.mvE rfl (by conv => lhs; whnf) (TL.nil h_)) ?_
      refine Plan.v 13 [3, 9, 10, 14, 15, 16, 17, 18, 19, 20, 21] (by kernel_rfl) (by kernel_rfl) (by kernel_rfl) (by kernel_rfl) rfl (fun _ _ h_ => R.mvE rfl (by conv => lhs; whnf) (TL.nil h_)) ?_
      refine Plan.v 14 [3, 9, 10, 15, 16, 17, 18, 19, 20, 21] (by kernel_rfl) (by kernel_rfl) (by kernel_rfl) (by kernel_rfl) rfl (fun _ _ h_ => R.subI rfl rfl rfl (by omega) (TL.nil h_)) ?_
      have hl58 : ((y29 - 1)).toNat < a0.2.1.length := by first | omega | (simp; done) | (simp; omega) | (simp at *; omega)
      obtain ⟨y58, e58, h58⟩ : ∃ y, y = (((a0.2.1.set (((y29 - 1)).toNat) (((IntKind.i64.wrap (y37.1 + 1)), true)))).getD (((y29 - 1)).toNat) (((0, false) : Int × Bool) : Int × Bool)) ∧ ((a0.2.1.set (((y29 - 1)).toNat) (((IntKind.i64.wrap (y37.1 + 1)), true))))[((y29 - 1)).toNat]? = some y := ⟨_, rfl, getD_get (by first | exact hl58 | simpa using hl58 | (rw [(sortI_perm _).length_eq]; exact hl58))⟩
      obtain ⟨b58, u58, cs58, l58, f58, j58, i58, g58, k58⟩ := OwnS.elem wst2 h58
      obtain rfl : l58 = [.int .i64 (y58.1), .bool (y58.2)] := g58
      refine Plan.v 15 [3, 9, 10, 16, 17, 18, 19, 20, 21] (by kernel_rfl) (by kernel_rfl) (by kernel_rfl) (by kernel_rfl) rfl (fun _ _ h_ => R.ixp (sz := (slotE).size) Tryd.underlying22 Tryd.sizeOf101 rfl rfl rfl (by first | omega | (simp; done) | (simp; omega) | (simp at *; omega)) i58 (TL.nil h_)) ?_
      refine Plan.v 16 [3, 9, 10, 17, 18, 19, 20, 21] (by kernel_rfl) (by kernel_rfl) (by kernel_rfl) (by kernel_rfl) rfl (fun _ _ h_ => R.fldA Tryd.underlying101 rfl Tryd.sizeOf3 (by decide) rfl rfl (TL.nil h_)) ?_
      refine Plan.s2 3 17 [9, 10, 17, 18, 19, 20, 21] [3, 9, 10, 18, 19, 20, 21] (by kernel_rfl) (by kernel_rfl) (by kernel_rfl) rfl rfl ?_ ?_
      · refine R.bs0 (E := (intE .i64)) rfl Tryd.underlying23 Tryd.sizeOf3 ?_
        intro v46 c46 w46
        obtain ⟨A46, p46, rfl, m46, n46⟩ := w46.shape
        refine TL.nil (Plan.e1 (HLe.refl _) ?_)
        refine Plan.s2 9 17 [10, 17, 18, 19, 20, 21] [9, 10, 18, 19, 20, 21] (by kernel_rfl) (by kernel_rfl) (by kernel_rfl) rfl rfl ?_ ?_
        · obtain ⟨k52, y52, r52⟩ := Src.rdA r51
          refine R.app (E := (intE .i64)) (e := 3) (xs := []) (ys := x51) Tryd_ty23 rfl rfl rfl w46 .hd (r52 _) y52 (by (try simp only [List.length_append, List.length_cons, List.length_nil, List.length_replicate, List.length_take, List.length_drop]); omega) (by (try simp only [List.length_append, List.length_cons, List.length_nil, List.length_replicate, List.length_take, List.length_drop]); omega) ?_
          intro v52 c52 w52
          have w52 : OwnS (intE .i64) 3 Hb1_1 v52 x51 c52 := w52
          obtain ⟨A52, p52, rfl, m52, n52⟩ := OwnS.shape w52
          refine TL.nil (Plan.e1 (HLe.refl _) ?_)
          refine Plan.v 10 [17, 18, 19, 20, 21] (by kernel_rfl) (by kernel_rfl) (by kernel_rfl) (by kernel_rfl) rfl (fun _ _ h_ => R.bld (cs := [.int .i64 (a0.1), .slice A14 a0.2.1.length p14, .slice A52 x51.length p52]) rfl (fun _ => by kernel_rfl) (TL.nil h_)) ?_
          refine Plan.s1 17 [18, 19, 20, 21] (by kernel_rfl) (by kernel_rfl) rfl ?_
          refine R.ld Tryd.isAgg3 rfl rfl (by rw [← f58]; exact (.tl .hd)) (k58 0 _ rfl) ?_
          refine TL.nil (Plan.e1 (HLe.refl _) ?_)
          refine Plan.v 18 [19, 20, 21] (by kernel_rfl) (by kernel_rfl) (by kernel_rfl) (by kernel_rfl) rfl (fun _ _ h_ => R.callv rfl rfl rfl (windroseref02_Entity_c _ (y29) (y58.1)) (TL.nil h_)) ?_
          refine Plan.s1 19 [20, 21] (by kernel_rfl) (by kernel_rfl) rfl ?_
          refine R.stX (old := [.int .i64 0, .slice none 0 0, .slice none 0 0]) (l := [.int .i64 (a0.1), .slice A14 a0.2.1.length p14, .slice A52 x51.length p52]) (new := [.int .i64 (a0.1), .slice A14 a0.2.1.length p14, .slice A52 x51.length p52]) (et := 25) Tryd.sizeOf25 rfl rfl rfl rfl rfl (by show 0 + 3 ≤ 3; decide) rfl (all_one rfl) (.tl (.tl .hd)) ?_
          refine TL.nil (Plan.e0 (HLe.refl _) ?_)
          refine Plan.v 20 [21] (by kernel_rfl) (by kernel_rfl) (by kernel_rfl) (by kernel_rfl) rfl (fun _ _ h_ => R.asE rfl (by conv => lhs; whnf) (TL.nil h_)) ?_
          refine Plan.v 21 [] (by kernel_rfl) (by kernel_rfl) (by kernel_rfl) (by kernel_rfl) rfl (fun _ _ h_ => R.asE rfl (by conv => lhs; whnf) (TL.nil h_)) ?_
          refine Plan.done (Post.thnN ?_)
          refine T.has (Has.cons (.tl .hd) (Has.cons .hd (Has.cons .hd Has.nil))) ?_
          refine T.ret (Post.blkR (Post.thnR ?_))
          have hM : windroseref02_Take_m a0 = ((a0.1, (a0.2.1.set (((y29 - 1)).toNat) (((IntKind.i64.wrap (y37.1 + 1)), true))), x51), (windroseref02_Entity_m y29 y58.1), 0) := by subst e58; subst e51; subst e42; subst e37; subst e29; rw [windroseref02_Take_m, if_neg c15, if_pos c22]
          exact finR3 (v := .agg #[.int .i64 (a0.1), .slice A14 a0.2.1.length p14, .slice A52 x51.length p52]) (v' := .int .u64 (windroseref02_Entity_m y29 y58.1)) (v'' := .int .i64 0) [cst2, c52] rfl (.cellA (cs := [.int .i64 (a0.1), .slice A14 a0.2.1.length p14, .slice A52 x51.length p52]) (l := [.int .i64 (a0.1), .slice A14 a0.2.1.length p14, .slice A52 x51.length p52]) Tryd.isAgg25 Tryd.sizeOf25 rfl (.tl (.tl .hd)) rfl rfl) (.tmp rfl) (.tmp rfl) (List.sublist_append_left ([cst2, c52] : Own) _) ⟨.slice A14 a0.2.1.length p14, .slice A52 x51.length p52, cst2, c52, by first | rw [hM] | rfl, rfl, by rw [hM]; exact wst2, by rw [hM]; exact w52⟩
        · refine R.ld Tryd.isAgg3 rfl rfl (by rw [← f58]; exact (.tl .hd)) (k58 0 _ rfl) ?_
          refine TL.nil (Plan.e1 (HLe.refl _) ?_)
          refine Plan.s1 9 [10, 18, 19, 20, 21] (by kernel_rfl) (by kernel_rfl) rfl ?_
          obtain ⟨k52, y52, r52⟩ := Src.rdA r51
          refine R.app (E := (intE .i64)) (e := 3) (xs := []) (ys := x51) Tryd_ty23 rfl rfl rfl w46 .hd (r52 _) y52 (by (try simp only [List.length_append, List.length_cons, List.length_nil, List.length_replicate, List.length_take, List.length_drop]); omega) (by (try simp only [List.length_append, List.length_cons, List.length_nil, List.length_replicate, List.length_take, List.length_drop]); omega) ?_
          intro v52 c52 w52
          have w52 : OwnS (intE .i64) 3 Hb1_1 v52 x51 c52 := w52
          obtain ⟨A52, p52, rfl, m52, n52⟩ := OwnS.shape w52
          refine TL.nil (Plan.e1 (HLe.refl _) ?_)
          refine Plan.v 10 [18, 19, 20, 21] (by kernel_rfl) (by kernel_rfl) (by kernel_rfl) (by kernel_rfl) rfl (fun _ _ h_ => R.bld (cs := [.int .i64 (a0.1), .slice A14 a0.2.1.length p14, .slice A52 x51.length p52]) rfl (fun _ => by kernel_rfl) (TL.nil h_)) ?_
          refine Plan.v 18 [19, 20, 21] (by kernel_rfl) (by kernel_rfl) (by kernel_rfl) (by kernel_rfl) rfl (fun _ _ h_ => R.callv rfl rfl rfl (windroseref02_Entity_c _ (y29) (y58.1)) (TL.nil h_)) ?_
          refine Plan.s1 19 [20, 21] (by kernel_rfl) (by kernel_rfl) rfl ?_
          refine R.stX (old := [.int .i64 0, .slice none 0 0, .slice none 0 0]) (l := [.int .i64 (a0.1), .slice A14 a0.2.1.length p14, .slice A52 x51.length p52]) (new := [.int .i64 (a0.1), .slice A14 a0.2.1.length p14, .slice A52 x51.length p52]) (et := 25) Tryd.sizeOf25 rfl rfl rfl rfl rfl (by show 0 + 3 ≤ 3; decide) rfl (all_one rfl) (.tl (.tl .hd)) ?_
          refine TL.nil (Plan.e0 (HLe.refl _) ?_)
          refine Plan.v 20 [21] (by kernel_rfl) (by kernel_rfl) (by kernel_rfl) (by kernel_rfl) rfl (fun _ _ h_ => R.asE rfl (by conv => lhs; whnf) (TL.nil h_)) ?_
          refine Plan.v 21 [] (by kernel_rfl) (by kernel_rfl) (by kernel_rfl) (by kernel_rfl) rfl (fun _ _ h_ => R.asE rfl (by conv => lhs; whnf) (TL.nil h_)) ?_
          refine Plan.done (Post.thnN ?_)
          refine T.has (Has.cons (.tl .hd) (Has.cons .hd (Has.cons .hd Has.nil))) ?_
          refine T.ret (Post.blkR (Post.thnR ?_))
          have hM : windroseref02_Take_m a0 = ((a0.1, (a0.2.1.set (((y29 - 1)).toNat) (((IntKind.i64.wrap (y37.1 + 1)), true))), x51), (windroseref02_Entity_m y29 y58.1), 0) := by subst e58; subst e51; subst e42; subst e37; subst e29; rw [windroseref02_Take_m, if_neg c15, if_pos c22]
          exact finR3 (v := .agg #[.int .i64 (a0.1), .slice A14 a0.2.1.length p14, .slice A52 x51.length p52]) (v' := .int .u64 (windroseref02_Entity_m y29 y58.1)) (v'' := .int .i64 0) [cst2, c52] rfl (.cellA (cs := [.int .i64 (a0.1), .slice A14 a0.2.1.length p14, .slice A52 x51.length p52]) (l := [.int .i64 (a0.1), .slice A14 a0.2.1.length p14, .slice A52 x51.length p52]) Tryd.isAgg25 Tryd.sizeOf25 rfl (.tl (.tl .hd)) rfl rfl) (.tmp rfl) (.tmp rfl) (List.sublist_append_left ([cst2, c52] : Own) _) ⟨.slice A14 a0.2.1.length p14, .slice A52 x51.length p52, cst2, c52, by first | rw [hM] | rfl, rfl, by rw [hM]; exact wst2, by rw [hM]; exact w52⟩
      · refine R.ld Tryd.isAgg3 rfl rfl (by rw [← f58]; exact .hd) (k58 0 _ rfl) ?_
        refine TL.nil (Plan.e1 (HLe.refl _) ?_)
        refine Plan.s1 3 [9, 10, 18, 19, 20, 21] (by kernel_rfl) (by kernel_rfl) rfl ?_
        refine R.bs0 (E := (intE .i64)) rfl Tryd.underlying23 Tryd.sizeOf3 ?_
        intro v46 c46 w46
        obtain ⟨A46, p46, rfl, m46, n46⟩ := w46.shape
        refine TL.nil (Plan.e1 (HLe.refl _) ?_)
        refine Plan.s1 9 [10, 18, 19, 20, 21] (by kernel_rfl) (by kernel_rfl) rfl ?_
        obtain ⟨k52, y52, r52⟩ := Src.rdA r51
        refine R.app (E := (intE .i64)) (e := 3) (xs := []) (ys := x51) Tryd_ty23 rfl rfl rfl w46 .hd (r52 _) y52 (by (try simp only [List.length_append, List.length_cons, List.length_nil, List.length_replicate, List.length_take, List.length_drop]); omega) (by (try simp only [List.length_append, List.length_cons, List.length_nil, List.length_replicate, List.length_take, List.length_drop]); omega) ?_
        intro v52 c52 w52
        have w52 : OwnS (intE .i64) 3 Hb1_1 v52 x51 c52 := w52
        obtain ⟨A52, p52, rfl, m52, n52⟩ := OwnS.shape w52
        refine TL.nil (Plan.e1 (HLe.refl _) ?_)
        refine Plan.v 10 [18, 19, 20, 21] (by kernel_rfl) (by kernel_rfl) (by kernel_rfl) (by kernel_rfl) rfl (fun _ _ h_ => R.bld (cs := [.int .i64 (a0.1), .slice A14 a0.2.1.length p14, .slice A52 x51.length p52]) rfl (fun _ => by kernel_rfl) (TL.nil h_)) ?_
        refine Plan.v 18 [19, 20, 21] (by kernel_rfl) (by kernel_rfl) (by kernel_rfl) (by kernel_rfl) rfl (fun _ _ h_ => R.callv rfl rfl rfl (windroseref02_Entity_c _ (y29) (y58.1)) (TL.nil h_)) ?_
        refine Plan.s1 19 [20, 21] (by kernel_rfl) (by kernel_rfl) rfl ?_
        refine R.stX (old := [.int .i64 0, .slice none 0 0, .slice none 0 0]) (l := [.int .i64 (a0.1), .slice A14 a0.2.1.length p14, .slice A52 x51.length p52]) (new := [.int .i64 (a0.1), .slice A14 a0.2.1.length p14, .slice A52 x51.length p52]) (et := 25) Tryd.sizeOf25 rfl rfl rfl rfl rfl (by show 0 + 3 ≤ 3; decide) rfl (all_one rfl) (.tl (.tl .hd)) ?_
        refine TL.nil (Plan.e0 (HLe.refl _) ?_)
        refine Plan.v 20 [21] (by kernel_rfl) (by kernel_rfl) (by kernel_rfl) (by kernel_rfl) rfl (fun _ _ h_ => R.asE rfl (by conv => lhs; whnf) (TL.nil h_)) ?_
        refine Plan.v 21 [] (by kernel_rfl) (by kernel_rfl) (by kernel_rfl) (by kernel_rfl) rfl (fun _ _ h_ => R.asE rfl (by conv => lhs; whnf) (TL.nil h_)) ?_
        refine Plan.done (Post.thnN ?_)
        refine T.has (Has.cons (.tl .hd) (Has.cons .hd (Has.cons .hd Has.nil))) ?_
        refine T.ret (Post.blkR (Post.thnR ?_))
        have hM : windroseref02_Take_m a0 = ((a0.1, (a0.2.1.set (((y29 - 1)).toNat) (((IntKind.i64.wrap (y37.1 + 1)), true))), x51), (windroseref02_Entity_m y29 y58.1), 0) := by subst e58; subst e51; subst e42; subst e37; subst e29; rw [windroseref02_Take_m, if_neg c15, if_pos c22]
        exact finR3 (v := .agg #[.int .i64 (a0.1), .slice A14 a0.2.1.length p14, .slice A52 x51.length p52]) (v' := .int .u64 (windroseref02_Entity_m y29 y58.1)) (v'' := .int .i64 0) [cst2, c52] rfl (.cellA (cs := [.int .i64 (a0.1), .slice A14 a0.2.1.length p14, .slice A52 x51.length p52]) (l := [.int .i64 (a0.1), .slice A14 a0.2.1.length p14, .slice A52 x51.length p52]) Tryd.isAgg25 Tryd.sizeOf25 rfl (.tl (.tl .hd)) rfl rfl) (.tmp rfl) (.tmp rfl) (List.sublist_append_left ([cst2, c52] : Own) _) ⟨.slice A14 a0.2.1.length p14, .slice A52 x51.length p52, cst2, c52, by first | rw [hM] | rfl, rfl, by rw [hM]; exact wst2, by rw [hM]; exact w52⟩
    · refine T.set 22 (.bool false) (congrArg Value.bool (decide_eq_false c22)) ?_
      refine T.seq ?_
      refine T.region ?_
      refine R.mvE rfl (by conv => lhs; whnf) ?_
      refine R.len Tryd.underlying22 rfl rfl ?_
      refine R.fldA Tryd.underlying25 rfl Tryd.sizeOf3 (by decide) rfl rfl ?_
      refine R.ldH Tryd.isAgg3 rfl rfl hb1_1 rfl ?_
      refine R.add rfl rfl rfl ?_
      refine R.lss rfl rfl rfl ?_
      refine R.asE rfl (by conv => lhs; whnf) ?_
      refine TL.nil (Post.thnN ?_)
      refine T.condD rfl (fun c62 => ?_) (fun c62 => ?_)
      · refine T.set 62 (.bool true) (congrArg Value.bool (decide_eq_true c62)) ?_
        refine T.seq ?_
        refine T.region ?_
        refine R.mvE rfl (by conv => lhs; whnf) ?_
        refine R.bld (cs := [.int .i64 0, .bool true]) rfl (fun _ => by kernel_rfl) ?_
        refine R.bs (e := 101) (cs := [.int .i64 0, .bool true]) rfl (fun _ => by kernel_rfl) ?_
        intro b71
        have w71 : OwnS slotE 101 Hb1_1 (.slice (some ⟨b71, 0, none⟩) 1 1) [((0, true) : Int × Bool)] [(b71, .cells #[.int .i64 0, .bool true] 101)] := OwnS.lit (xs := [((0, true) : Int × Bool)]) (cellsOf_cons (a := [.int .i64 0, .bool true]) rfl cellsOf_nil) (by show 1 ≤ maxLen; decide)
        obtain ⟨k72, y72, r72⟩ := Src.ownA w71
        refine R.app (E := slotE) (e := 101) (xs := a0.2.1) (ys := [((0, true) : Int × Bool)]) Tryd_ty22 rfl rfl rfl w14 (.tl .hd) (r72 _ .hd) y72 (by (try simp only [List.length_append, List.length_cons, List.length_nil, List.length_replicate, List.length_take, List.length_drop]); omega) (by (try simp only [List.length_append, List.length_cons, List.length_nil, List.length_replicate, List.length_take, List.length_drop]); omega) ?_
        intro v72 c72 w72
        obtain ⟨A72, p72, rfl, m72, n72⟩ := OwnS.shape w72
        refine TL.del (.tl .hd) ?_
        refine R.asE rfl (by conv => lhs; whnf) ?_
        refine TL.nil (Post.thnN ?_)
        refine T.seq ?_
        refine T.draw Tryd_mixed (by kernel_rfl) ?_
        refine Plan.v 0 [1, 2, 3, 4, 5, 6, 7, 8, 9] (by kernel_rfl) (by kernel_rfl) (by kernel_rfl) (by kernel_rfl) rfl (fun _ _ h_ => R.fldA Tryd.underlying25 rfl Tryd.sizeOf3 (by decide) rfl rfl (TL.nil h_)) ?_
        refine Plan.v 1 [2, 3, 4, 5, 6, 7, 8, 9] (by kernel_rfl) (by kernel_rfl) (by kernel_rfl) (by kernel_rfl) rfl (fun _ _ h_ => R.ldH Tryd.isAgg3 rfl rfl hb1_1 rfl (TL.nil h_)) ?_
        refine Plan.v 2 [3, 4, 5, 6, 7, 8, 9] (by kernel_rfl) (by kernel_rfl) (by kernel_rfl) (by kernel_rfl) rfl (fun _ _ h_ => R.mvE rfl (by conv => lhs; whnf) (TL.nil h_)) ?_
        refine Plan.v 3 [4, 5, 6, 7, 8, 9] (by kernel_rfl) (by kernel_rfl) (by kernel_rfl) (by kernel_rfl) rfl (fun _ _ h_ => R.bld (cs := [.int .i64 (a0.1), .slice A72 (a0.2.1 ++ [((0, true) : Int × Bool)]).length p72, .slice none 0 0]) rfl (fun _ => by kernel_rfl) (TL.nil h_)) ?_
        refine Plan.v 4 [5, 6, 7, 8, 9] (by kernel_rfl) (by kernel_rfl) (by kernel_rfl) (by kernel_rfl) rfl (fun _ _ h_ => R.mvE rfl (by conv => lhs; whnf) (TL.nil h_)) ?_
        refine Plan.v 5 [6, 7, 8, 9] (by kernel_rfl) (by kernel_rfl) (by kernel_rfl) (by kernel_rfl) rfl (fun _ _ h_ => R.len Tryd.underlying22 rfl rfl (TL.nil h_)) ?_
        obtain ⟨r79, er79⟩ : ∃ r, r = (windroseref02_Entity_m (((a0.2.1 ++ [((0, true) : Int × Bool)]).length : Int)) 0) := ⟨_, rfl⟩
        refine Plan.v 6 [7, 8, 9] (by kernel_rfl) (by kernel_rfl) (by kernel_rfl) (by kernel_rfl) rfl (fun _ _ h_ => R.callv (v := .int .u64 r79) rfl rfl rfl (by rw [er79]; exact windroseref02_Entity_c _ (((a0.2.1 ++ [((0, true) : Int × Bool)]).length : Int)) (0)) (TL.nil h_)) ?_
        refine Plan.s1 7 [8, 9] (by kernel_rfl) (by kernel_rfl) rfl ?_
        refine R.stX (old := [.int .i64 0, .slice none 0 0, .slice none 0 0]) (l := [.int .i64 (a0.1), .slice A72 (a0.2.1 ++ [((0, true) : Int × Bool)]).length p72, .slice none 0 0]) (new := [.int .i64 (a0.1), .slice A72 (a0.2.1 ++ [((0, true) : Int × Bool)]).length p72, .slice none 0 0]) (et := 25) Tryd.sizeOf25 rfl rfl rfl rfl rfl (by show 0 + 3 ≤ 3; decide) rfl (all_one rfl) (.tl .hd) ?_
        refine TL.nil (Plan.e0 (HLe.refl _) ?_)
        refine Plan.v 8 [9] (by kernel_rfl) (by kernel_rfl) (by kernel_rfl) (by kernel_rfl) rfl (fun _ _ h_ => R.asE rfl (by conv => lhs; whnf) (TL.nil h_)) ?_
        refine Plan.v 9 [] (by kernel_rfl) (by kernel_rfl) (by kernel_rfl) (by kernel_rfl) rfl (fun _ _ h_ => R.asE rfl (by conv => lhs; whnf) (TL.nil h_)) ?_
        refine Plan.done (Post.thnN ?_)
        refine T.has (Has.cons .hd (Has.none (Has.cons .hd Has.nil))) ?_
        refine T.ret (Post.blkR (Post.thnR ?_))
        have hM : windroseref02_Take_m a0 = (((a0.1, (a0.2.1 ++ [((0, true) : Int × Bool)]), []) : Int × (List (Int × Bool)) × (List Int)), r79, 0) := by subst er79; rw [windroseref02_Take_m, if_neg c15, if_neg c22, if_pos c62, LR.seq_go]
        exact finR3 (v := .agg #[.int .i64 (a0.1), .slice A72 (a0.2.1 ++ [((0, true) : Int × Bool)]).length p72, .slice none 0 0]) (v' := .int .u64 r79) (v'' := .int .i64 0) [c72, []] rfl (.cellA (cs := [.int .i64 (a0.1), .slice A72 (a0.2.1 ++ [((0, true) : Int × Bool)]).length p72, .slice none 0 0]) (l := [.int .i64 (a0.1), .slice A72 (a0.2.1 ++ [((0, true) : Int × Bool)]).length p72, .slice none 0 0]) Tryd.isAgg25 Tryd.sizeOf25 rfl (.tl (.tl .hd)) rfl rfl) (.tmp rfl) (.tmp rfl) (List.sublist_append_left ([c72, []] : Own) _) ⟨.slice A72 (a0.2.1 ++ [((0, true) : Int × Bool)]).length p72, .slice none 0 0, c72, [], by first | rw [hM] | rfl, rfl, by rw [hM]; exact w72, by rw [hM]; exact OwnS.nil⟩
      · refine T.set 62 (.bool false) (congrArg Value.bool (decide_eq_false c62)) ?_
        refine T.skip (Post.blkN ?_)
        refine id (Post.thnN ?_)
        refine T.seq ?_
        refine T.region ?_
        refine R.bld (cs := [.int .i64 0, .slice none 0 0, .slice none 0 0]) rfl (fun _ => by kernel_rfl) ?_
        refine R.stX (old := [.int .i64 0, .slice none 0 0, .slice none 0 0]) (l := [.int .i64 0, .slice none 0 0, .slice none 0 0]) (new := [.int .i64 0, .slice none 0 0, .slice none 0 0]) (et := 25) Tryd.sizeOf25 rfl rfl rfl rfl rfl (by show 0 + 3 ≤ 3; decide) rfl (all_one rfl) (.tl .hd) ?_
        refine R.asE rfl (by conv => lhs; whnf) ?_
        refine R.asE rfl (by conv => lhs; whnf) ?_
        refine TL.nil (Post.thnN ?_)
        refine T.has (Has.none (Has.none (Has.cons (.tl .hd) Has.nil))) ?_
        refine T.ret ?_
        have hM : windroseref02_Take_m a0 = (((0, [], []) : Int × (List (Int × Bool)) × (List Int)), 0, 121) := by rw [windroseref02_Take_m, if_neg c15, if_neg c22, if_neg c62]
        exact finR3 (v := .agg #[.int .i64 0, .slice none 0 0, .slice none 0 0]) (v' := .int .u64 0) (v'' := .int .i64 121) [[], []] rfl (.cellA (cs := [.int .i64 0, .slice none 0 0, .slice none 0 0]) (l := [.int .i64 0, .slice none 0 0, .slice none 0 0]) Tryd.isAgg25 Tryd.sizeOf25 rfl (.tl (.tl .hd)) rfl rfl) (.tmp rfl) (.tmp rfl) (List.sublist_append_left ([[], []] : Own) _) ⟨.slice none 0 0, .slice none 0 0, [], [], by first | rw [hM] | rfl, rfl, by rw [hM]; exact OwnS.nil, by rw [hM]; exact OwnS.nil⟩

def windroseref02_has_l1 (a1 : Int) : List Int → Unit → LR (Bool) (Unit)
  | [], sl1 => .go ()
  | yl1 :: ysl1, sl1 => if yl1 = a1 then (.ret true) else (windroseref02_has_l1 a1 ysl1 ())
def windroseref02_has_m (a0 : List Int) (a1 : Int) : Bool :=
  LR.on (windroseref02_has_l1 a1 a0 ()) (fun r => r) (fun ol1 => false)
set_option maxHeartbeats 3200000 in
theorem windroseref02_has_c (H : Heap) (va0 : Value) (a0 : List Int) (ha0 : RdS (intE .u64) H va0 a0) (a1 : Int) : Fv Tryd.prog (fnv 70) [va0, .int .u64 a1] H (.bool (windroseref02_has_m a0 a1)) := by
  refine Fc.of_body (N := 17) Tryd.func70 rfl (by kernel_rfl) rfl rfl ?_
  intro w0
  obtain ⟨Aa0, ca0, rfl, hca0, hda0, ha0⟩ := ha0.shape
  refine T.seq ?_
  refine T.region ?_
  refine R.asE rfl (by conv => lhs; whnf) ?_
  refine TL.nil (Post.thnN ?_)
  refine T.seq ?_
  refine T.seq ?_
  refine T.region ?_
  refine R.mvE rfl (by conv => lhs; whnf) ?_
  refine R.len Tryd.underlying29 rfl rfl ?_
  refine R.mvE rfl (by conv => lhs; whnf) ?_
  refine TL.nil (Post.thnN ?_)
  refine T.block ?_
  refine T.loop (ι := Nat) (fun kl1 H' L' ds' => kl1 ≤ a0.length ∧ Has L' [] ∧ windroseref02_has_l1 a1 (a0.drop kl1) () = windroseref02_has_l1 a1 a0 ()) (fun kl1 => [(9, .int .i64 (kl1 : Int)), (1, .int .u64 a1), (7, .slice Aa0 a0.length ca0), (8, .int .i64 (a0.length : Int))]) (fun kl1 => a0.length - kl1) 0 ?_ ?_ ?_
  · exact ⟨(by omega), Has.nil, (by rfl)⟩
  · exact ⟨rfl, rfl, rfl, rfl, trivial⟩
  · intro kl1 σ_l1 H_l1 L_l1 ds_l1 s_l1 hI_l1
    obtain ⟨hkl1, hI_l1⟩ := hI_l1
    obtain ⟨hLl1, hQl1⟩ := hI_l1
    refine T.has hLl1 ?_
    refine T.seq ?_
    refine T.region ?_
    refine R.lss rfl rfl rfl ?_
    refine TL.nil (Post.thnN ?_)
    refine T.seq ?_
    refine T.condD rfl (fun c10 => ?_) (fun c10 => ?_)
    · have hltl1 : kl1 < a0.length := by omega
      obtain ⟨yl1, hyl1⟩ := getk (xs := a0) (k := kl1) (by omega)
      refine T.skip (Post.thnN ?_)
      refine T.seq ?_
      refine T.block ?_
      refine T.seq ?_
      refine T.region ?_
      obtain ⟨b11, o11, i11, k11⟩ := RdS.elem (ha0.mono s_l1) hyl1
      obtain ⟨l11, g11, k11⟩ := k11
      obtain rfl : l11 = [.int .u64 yl1] := g11
      refine R.ixp Tryd.underlying29 Tryd.sizeOf32 rfl rfl rfl (by omega) i11 ?_
      refine R.ldC Tryd.isAgg32 rfl rfl (k11 0 _ rfl) ?_
      refine R.asE rfl (by conv => lhs; whnf) ?_
      refine TL.nil (Post.thnN ?_)
      refine T.seq ?_
      refine T.region ?_
      refine R.mvE rfl (by conv => lhs; whnf) ?_
      refine R.mvE rfl (by conv => lhs; whnf) ?_
      refine R.eql rfl rfl rfl ?_
      refine TL.nil (Post.thnN ?_)
      refine T.condD rfl (fun c15 => ?_) (fun c15 => ?_)
      · refine T.set 15 (.bool true) (congrArg Value.bool (decide_eq_true c15)) ?_
        refine T.seq ?_
        refine T.region ?_
        refine R.asE rfl (by conv => lhs; whnf) ?_
        refine TL.nil (Post.thnN ?_)
        refine T.has Has.nil ?_
        refine T.ret (Post.blkR (Post.thnR (Post.thnR (Post.blkR (Post.thnR ?_)))))
        have hXl1 : windroseref02_has_l1 a1 a0 () = .ret true := by rw [← hQl1, drop_cons hyl1, windroseref02_has_l1]; rw [if_pos c15]
        have hM : windroseref02_has_m a0 a1 = true := by rw [windroseref02_has_m, hXl1, LR.on_ret]
        exact fin1L (v := .bool true) [] rfl rfl (List.Sublist.refl _) ⟨rfl, by first | rw [hM] | rfl⟩
      · refine T.set 15 (.bool false) (congrArg Value.bool (decide_eq_false c15)) ?_
        refine T.skip (Post.blkN ?_)
        refine id (Post.thnN ?_)
        refine T.region ?_
        refine R.addI rfl rfl rfl (by omega) ?_
        refine R.mvE rfl (by conv => lhs; whnf) ?_
        refine TL.nil (Post.thnN ?_)
        exact ⟨kl1 + 1, s_l1, ⟨(by omega), Has.nil, (by rw [← hQl1, drop_cons hyl1, windroseref02_has_l1]; rw [if_neg c15])⟩, by show a0.length - (kl1 + 1) < a0.length - kl1; omega, rfl, rfl, rfl, rfl, trivial⟩
    · refine T.exit (Post.thnE (Post.thnE (Post.blkX ?_)))
      have hEl1 : windroseref02_has_l1 a1 a0 () = .go () := (hQl1.symm.trans (by rw [show kl1 = a0.length by omega, List.drop_length, windroseref02_has_l1]))
      refine id (Post.thnN ?_)
      refine T.seq ?_
      refine T.region ?_
      refine R.asE rfl (by conv => lhs; whnf) ?_
      refine TL.nil (Post.thnN ?_)
      refine T.has Has.nil ?_
      refine T.ret ?_
      have hM : windroseref02_has_m a0 a1 = false := by rw [windroseref02_has_m, hEl1, LR.on_go]
      exact fin1L (v := .bool false) [] rfl rfl (List.Sublist.refl _) ⟨rfl, by first | rw [hM] | rfl⟩

def windroseref02_Give_l5 (a1 : List Int) : List (Int × Bool) → Nat → (Int × (List (Int × Bool)) × (List Int)) → Int × (List (Int × Bool)) × (List Int)
  | [], kl5, sl5 => (sl5.1, sl5.2.1, sl5.2.2)
  | yl5 :: ysl5, kl5, sl5 => LR.seq (windroseref02_has_m a1 ((windroseref02_Entity_m (((kl5 : Int) + 1)) yl5.1))) (fun r64 => LR.seq (if r64 = true then (if yl5.1 < 7 then ((yl5.1, false, sl5.1, sl5.2.1, (sl5.2.2 ++ [((kl5 : Int) + 1)]))) else ((yl5.1, false, sl5.1, sl5.2.1, sl5.2.2))) else ((yl5.1, yl5.2, sl5.1, sl5.2.1, sl5.2.2)) : Int × Bool × Int × (List (Int × Bool)) × (List Int)) (fun sc6 => windroseref02_Give_l5 a1 ysl5 (kl5 + 1) ((sc6.2.2.1, (sc6.2.2.2.1 ++ [(sc6.1, sc6.2.1)]), sc6.2.2.2.2))))
def windroseref02_Give_l2 (a1 : List Int) : List Int → Nat → Unit → LR ((Int × (List (Int × Bool)) × (List Int)) × Int) (Unit)
  | [], kl2, sl2 => .go ()
  | yl2 :: ysl2, kl2, sl2 => LR.seq (if yl2 ≤ 2 then true else ((windroseref02_has_m (a1.take kl2) yl2)) : Bool) (fun sc3 => if sc3 = true then (.ret ((((0, [], []) : Int × (List (Int × Bool)) × (List Int)), 2))) else (windroseref02_Give_l2 a1 ysl2 (kl2 + 1) ()))
def windroseref02_Give_l1 (a0 : Int × (List (Int × Bool)) × (List Int)) : List Int → Unit → LR ((Int × (List (Int × Bool)) × (List Int)) × Int) (Unit)
  | [], sl1 => .go ()
  | yl1 :: ysl1, sl1 => if (!(windroseref02_Is_m a0 yl1)) = true then (.ret ((((0, [], []) : Int × (List (Int × Bool)) × (List Int)), 122))) else (windroseref02_Give_l1 a0 ysl1 ())
def windroseref02_Give_m (a0 : Int × (List (Int × Bool)) × (List Int)) (a1 : List Int) : (Int × (List (Int × Bool)) × (List Int)) × Int :=
  LR.on (windroseref02_Give_l1 a0 a1 ()) (fun r => r) (fun ol1 => LR.on (windroseref02_Give_l2 a1 a1 0 ()) (fun r => r) (fun ol2 => LR.seq ((a0.1, [], a0.2.2) : Int × (List (Int × Bool)) × (List Int)) (fun sc4 => LR.seq (windroseref02_Give_l5 a1 a0.2.1 0 ((sc4.1, sc4.2.1, sc4.2.2))) (fun ol5 => ((ol5.1, ol5.2.1, ol5.2.2), 0)))))
set_option maxHeartbeats 3200000 in
theorem windroseref02_Give_c (H : Heap) (a0 : Int × (List (Int × Bool)) × (List Int)) (va0_1 : Value) (ha0_1 : RdS slotE H va0_1 a0.2.1) (va0_2 : Value) (ha0_2 : RdS (intE .i64) H va0_2 a0.2.2) (va1 : Value) (a1 : List Int) (ha1 : RdS (intE .u64) H va1 a1) (hr : Rt a0) (hl : a1.length ≤ 2000000) : Fc Tryd.prog (fnv 22) [.agg #[.int .i64 a0.1, va0_1, va0_2], va1] H [] (fun v' H' L' => ∃ u0_1 u0_2 c0_1 c0_2, v' = .tuple #[.agg #[.int .i64 (windroseref02_Give_m a0 a1).1.1, u0_1, u0_2], .int .i64 (windroseref02_Give_m a0 a1).2] ∧ L' = [c0_1, c0_2] ∧ OwnS slotE 101 H' u0_1 (windroseref02_Give_m a0 a1).1.2.1 c0_1 ∧ OwnS (intE .i64) 3 H' u0_2 (windroseref02_Give_m a0 a1).1.2.2 c0_2) := by
  refine Fc.of_body (N := 84) Tryd.func22 rfl (by kernel_rfl) rfl rfl ?_
  intro w0
  obtain ⟨Aa0_1, ca0_1, rfl, hca0_1, hda0_1, ha0_1⟩ := ha0_1.shape
  obtain ⟨Aa0_2, ca0_2, rfl, hca0_2, hda0_2, ha0_2⟩ := ha0_2.shape
  obtain ⟨Aa1, ca1, rfl, hca1, hda1, ha1⟩ := ha1.shape
  have hs := hr.n2
  have hm := hr.m2
  have hf := hr.flen
  refine T.seq ?_
  refine T.region ?_
  refine R.box rfl (by conv => lhs; whnf) ?_
  intro b2
  refine R.alloc Tryd.zeroValue25 rfl ?_
  intro b4
  refine R.asE rfl (by conv => lhs; whnf) ?_
  refine TL.shut (.tl .hd) ?_
  intro Hb2_1 sb2_1 qb2_1
  have hb2_1 : Hb2_1 b2 = some (.cells #[.int .i64 (a0.1), .slice Aa0_1 a0.2.1.length ca0_1, .slice Aa0_2 a0.2.2.length ca0_2] 25) := shut1 qb2_1
  refine TL.nil (Post.thnN ?_)
  refine T.seq ?_
  refine T.seq ?_
  refine T.region ?_
  refine R.mvE rfl (by conv => lhs; whnf) ?_
  refine R.len Tryd.underlying29 rfl rfl ?_
  refine R.mvE rfl (by conv => lhs; whnf) ?_
  refine TL.nil (Post.thnN ?_)
  refine T.block ?_
  refine T.loop (ι := Nat) (fun kl1 H' L' ds' => kl1 ≤ a1.length ∧ Has L' [[(b4, .cells #[.int .i64 0, .slice none 0 0, .slice none 0 0] 25)]] ∧ windroseref02_Give_l1 a0 (a1.drop kl1) () = windroseref02_Give_l1 a0 a1 ()) (fun kl1 => [(15, .int .i64 (kl1 : Int)), (1, .slice Aa1 a1.length ca1), (2, .pointer (some ⟨b2, 0, none⟩)), (4, .pointer (some ⟨b4, 0, none⟩)), (13, .slice Aa1 a1.length ca1), (14, .int .i64 (a1.length : Int))]) (fun kl1 => a1.length - kl1) 0 ?_ ?_ ?_
  · exact ⟨(by omega), (Has.cons .hd Has.nil), (by rfl)⟩
  · exact ⟨rfl, rfl, rfl, rfl, rfl, rfl, trivial⟩
  · intro kl1 σ_l1 H_l1 L_l1 ds_l1 s_l1 hI_l1
    obtain ⟨hkl1, hI_l1⟩ := hI_l1
    obtain ⟨hLl1, hQl1⟩ := hI_l1
    refine T.has hLl1 ?_
    refine T.seq ?_
    refine T.region ?_
    refine R.lss rfl rfl rfl ?_
    refine TL.nil (Post.thnN ?_)
    refine T.seq ?_
    refine T.condD rfl (fun c16 => ?_) (fun c16 => ?_)
    · have hltl1 : kl1 < a1.length := by omega
      obtain ⟨yl1, hyl1⟩ := getk (xs := a1) (k := kl1) (by omega)
      refine T.skip (Post.thnN ?_)
      refine T.seq ?_
      refine T.block ?_
      refine T.seq ?_
      refine T.region ?_
      obtain ⟨b17, o17, i17, k17⟩ := RdS.elem (ha1.mono (sb2_1.trans s_l1)) hyl1
      obtain ⟨l17, g17, k17⟩ := k17
      obtain rfl : l17 = [.int .u64 yl1] := g17
      refine R.ixp Tryd.underlying29 Tryd.sizeOf32 rfl rfl rfl (by omega) i17 ?_
      refine R.ldC Tryd.isAgg32 rfl rfl (k17 0 _ rfl) ?_
      refine R.asE rfl (by conv => lhs; whnf) ?_
      refine TL.nil (Post.thnN ?_)
      refine T.seq ?_
      refine T.region ?_
      refine R.ldXH (cs := [.int .i64 (a0.1), .slice Aa0_1 a0.2.1.length ca0_1, .slice Aa0_2 a0.2.2.length ca0_2]) (l := [.int .i64 (a0.1), .slice Aa0_1 a0.2.1.length ca0_1, .slice Aa0_2 a0.2.2.length ca0_2]) Tryd.isAgg25 Tryd.sizeOf25 rfl rfl (s_l1 _ _ hb2_1) rfl rfl ?_
      refine R.mvE rfl (by conv => lhs; whnf) ?_
      refine R.callv rfl rfl rfl (windroseref02_Is_c _ a0 _ (ha0_1.mono (sb2_1.trans s_l1)) _ (ha0_2.mono (sb2_1.trans s_l1)) (yl1)) ?_
      refine R.not rfl rfl ?_
      refine TL.nil (Post.thnN ?_)
      refine T.cond rfl (fun c22 => ?_) (fun c22 => ?_)
      · refine T.set 22 (.bool true) (congrArg Value.bool c22) ?_
        refine T.seq ?_
        refine T.region ?_
        refine R.bld (cs := [.int .i64 0, .slice none 0 0, .slice none 0 0]) rfl (fun _ => by kernel_rfl) ?_
        refine R.stX (old := [.int .i64 0, .slice none 0 0, .slice none 0 0]) (l := [.int .i64 0, .slice none 0 0, .slice none 0 0]) (new := [.int .i64 0, .slice none 0 0, .slice none 0 0]) (et := 25) Tryd.sizeOf25 rfl rfl rfl rfl rfl (by show 0 + 3 ≤ 3; decide) rfl (all_one rfl) .hd ?_
        refine R.asE rfl (by conv => lhs; whnf) ?_
        refine TL.nil (Post.thnN ?_)
        refine T.has (Has.none (Has.none (Has.cons .hd Has.nil))) ?_
        refine T.ret (Post.blkR (Post.thnR (Post.thnR (Post.blkR (Post.thnR ?_)))))
        have hXl1 : windroseref02_Give_l1 a0 a1 () = .ret ((((0, [], []) : Int × (List (Int × Bool)) × (List Int)), 122)) := by rw [← hQl1, drop_cons hyl1, windroseref02_Give_l1]; rw [if_t c22]
        have hM : windroseref02_Give_m a0 a1 = (((0, [], []) : Int × (List (Int × Bool)) × (List Int)), 122) := by rw [windroseref02_Give_m, hXl1, LR.on_ret]
        exact finR2 (v := .agg #[.int .i64 0, .slice none 0 0, .slice none 0 0]) (v' := .int .i64 122) [[], []] rfl (.cellA (cs := [.int .i64 0, .slice none 0 0, .slice none 0 0]) (l := [.int .i64 0, .slice none 0 0, .slice none 0 0]) Tryd.isAgg25 Tryd.sizeOf25 rfl (.tl (.tl .hd)) rfl rfl) (.tmp rfl) (List.sublist_append_left ([[], []] : Own) _) ⟨.slice none 0 0, .slice none 0 0, [], [], by first | rw [hM] | rfl, rfl, by rw [hM]; exact OwnS.nil, by rw [hM]; exact OwnS.nil⟩
      · refine T.set 22 (.bool false) (congrArg Value.bool c22) ?_
        refine T.skip (Post.blkN ?_)
        refine id (Post.thnN ?_)
        refine T.region ?_
        refine R.addI rfl rfl rfl (by omega) ?_
        refine R.mvE rfl (by conv => lhs; whnf) ?_
        refine TL.nil (Post.thnN ?_)
        exact ⟨kl1 + 1, s_l1, ⟨(by omega), (Has.cons .hd Has.nil), (by rw [← hQl1, drop_cons hyl1, windroseref02_Give_l1]; rw [if_f c22])⟩, by show a1.length - (kl1 + 1) < a1.length - kl1; omega, rfl, rfl, rfl, rfl, rfl, rfl, trivial⟩
    · refine T.exit (Post.thnE (Post.thnE (Post.blkX ?_)))
      have hEl1 : windroseref02_Give_l1 a0 a1 () = .go () := (hQl1.symm.trans (by rw [show kl1 = a1.length by omega, List.drop_length, windroseref02_Give_l1]))
      refine id (Post.thnN ?_)
      refine T.seq ?_
      refine T.seq ?_
      refine T.region ?_
      refine R.mvE rfl (by conv => lhs; whnf) ?_
      refine R.len Tryd.underlying29 rfl rfl ?_
      refine R.mvE rfl (by conv => lhs; whnf) ?_
      refine TL.nil (Post.thnN ?_)
      refine T.block ?_
      refine T.loop (ι := Nat) (fun kl2 H' L' ds' => kl2 ≤ a1.length ∧ Has L' [[(b4, .cells #[.int .i64 0, .slice none 0 0, .slice none 0 0] 25)]] ∧ windroseref02_Give_l2 a1 (a1.drop kl2) kl2 () = windroseref02_Give_l2 a1 a1 0 ()) (fun kl2 => [(27, .int .i64 (kl2 : Int)), (1, .slice Aa1 a1.length ca1), (2, .pointer (some ⟨b2, 0, none⟩)), (4, .pointer (some ⟨b4, 0, none⟩)), (25, .slice Aa1 a1.length ca1), (26, .int .i64 (a1.length : Int))]) (fun kl2 => a1.length - kl2) 0 ?_ ?_ ?_
      · exact ⟨(by omega), (Has.cons .hd Has.nil), (by rfl)⟩
      · exact ⟨rfl, rfl, rfl, rfl, rfl, rfl, trivial⟩
      · intro kl2 σ_l2 H_l2 L_l2 ds_l2 s_l2 hI_l2
        obtain ⟨hkl2, hI_l2⟩ := hI_l2
        obtain ⟨hLl2, hQl2⟩ := hI_l2
        refine T.has hLl2 ?_
        refine T.seq ?_
        refine T.region ?_
        refine R.lss rfl rfl rfl ?_
        refine TL.nil (Post.thnN ?_)
        refine T.seq ?_
        refine T.condD rfl (fun c28 => ?_) (fun c28 => ?_)
        · have hltl2 : kl2 < a1.length := by omega
          obtain ⟨yl2, hyl2⟩ := getk (xs := a1) (k := kl2) (by omega)
          refine T.skip (Post.thnN ?_)
          refine T.seq ?_
          refine T.block ?_
          refine T.seq ?_
          refine T.region ?_
          refine R.mvE rfl (by conv => lhs; whnf) ?_
          obtain ⟨b30, o30, i30, k30⟩ := RdS.elem (ha1.mono (sb2_1.trans (s_l1.trans s_l2))) hyl2
          obtain ⟨l30, g30, k30⟩ := k30
          obtain rfl : l30 = [.int .u64 yl2] := g30
          refine R.ixp Tryd.underlying29 Tryd.sizeOf32 rfl rfl rfl (by omega) i30 ?_
          refine R.ldC Tryd.isAgg32 rfl rfl (k30 0 _ rfl) ?_
          refine R.asE rfl (by conv => lhs; whnf) ?_
          refine R.asE rfl (by conv => lhs; whnf) ?_
          refine TL.nil (Post.thnN ?_)
          refine T.seq ?_
          refine T.cutK (ι := Bool) (fun b40c3 H' L' ds' => Has L' [[(b4, .cells #[.int .i64 0, .slice none 0 0, .slice none 0 0] 25)]] ∧ (if yl2 ≤ 2 then true else ((windroseref02_has_m (a1.take kl2) yl2)) : Bool) = b40c3) (fun b40c3 => [(1, .slice Aa1 a1.length ca1), (2, .pointer (some ⟨b2, 0, none⟩)), (4, .pointer (some ⟨b4, 0, none⟩)), (25, .slice Aa1 a1.length ca1), (26, .int .i64 (a1.length : Int)), (27, .int .i64 (kl2 : Int)), (40, .bool (b40c3))]) ?_ ?_
          · refine T.region ?_
            refine R.mvE rfl (by conv => lhs; whnf) ?_
            refine R.leq rfl rfl rfl ?_
            refine R.mvE rfl (by conv => lhs; whnf) ?_
            refine TL.gsplitD 34 rfl (fun g34 => ?_) (fun g34 => ?_)
            · refine TL.off rfl rfl rfl ?_
              refine TL.off rfl rfl rfl ?_
              refine TL.off rfl rfl rfl ?_
              refine TL.off rfl rfl rfl ?_
              refine TL.off rfl rfl rfl ?_
              refine R.pkTE rfl rfl (by conv => lhs; whnf) ?_
              refine TL.nil (Post.thnN ?_)
              exact ⟨true, HLe.refl _, ⟨(Has.cons .hd Has.nil), (by rw [if_pos g34])⟩, rfl, rfl, rfl, rfl, rfl, rfl, rfl, trivial⟩
            · refine R.mvE rfl (by conv => lhs; whnf) ?_
              refine R.mvE rfl (by conv => lhs; whnf) ?_
              have z37 := RdS.takeC (ha1.mono (sb2_1.trans (s_l1.trans s_l2))) (i := kl2) (by omega) (by omega)
              obtain ⟨x37, e37⟩ : ∃ x, x = (a1.take kl2) := ⟨_, rfl⟩
              rw [← e37] at z37
              obtain ⟨A37, p37, q37, m37, n37, r37⟩ := RdS.shape z37
              have t37 : x37.length ≤ a1.length := by rw [e37]; simp; try omega
              have t37_ : x37.length = min kl2 a1.length := by rw [e37]; simp
              refine R.sH Tryd.underlying29 Tryd.sizeOf32 rfl rfl rfl (by omega) (by omega)  ?_
              refine TL.set 37 (.slice A37 x37.length p37) (by first | exact q37 | (rw [← q37]; simp; done) | (rw [← q37]; rfl)) ?_
              refine R.mvE rfl (by conv => lhs; whnf) ?_
              refine R.callv rfl rfl rfl (windroseref02_has_c _ _ x37 r37 (yl2)) ?_
              refine R.pkFE rfl rfl (by conv => lhs; whnf) ?_
              refine TL.nil (Post.thnN ?_)
              exact ⟨(windroseref02_has_m x37 yl2), HLe.refl _, ⟨(Has.cons .hd Has.nil), (by subst e37; rw [if_neg g34])⟩, rfl, rfl, rfl, rfl, rfl, rfl, rfl, trivial⟩
          · intro b40c3 σ_c3 H_c3 L_c3 ds_c3 s_c3 hI_c3
            obtain ⟨hLc3, hTc3⟩ := hI_c3
            refine T.has hLc3 ?_
            refine T.cond rfl (fun c40 => ?_) (fun c40 => ?_)
            · refine T.set 40 (.bool true) (congrArg Value.bool c40) ?_
              have hZ40 := hTc3.trans c40
              try simp only [or_f, or_t, and_f, and_t, decide_eq_true_eq, decide_eq_false_iff_not, Bool.not_eq_true'] at hZ40
              refine T.seq ?_
              refine T.region ?_
              refine R.bld (cs := [.int .i64 0, .slice none 0 0, .slice none 0 0]) rfl (fun _ => by kernel_rfl) ?_
              refine R.stX (old := [.int .i64 0, .slice none 0 0, .slice none 0 0]) (l := [.int .i64 0, .slice none 0 0, .slice none 0 0]) (new := [.int .i64 0, .slice none 0 0, .slice none 0 0]) (et := 25) Tryd.sizeOf25 rfl rfl rfl rfl rfl (by show 0 + 3 ≤ 3; decide) rfl (all_one rfl) .hd ?_
              refine R.asE rfl (by conv => lhs; whnf) ?_
              refine TL.nil (Post.thnN ?_)
              refine T.has (Has.none (Has.none (Has.cons .hd Has.nil))) ?_
              refine T.ret (Post.blkR (Post.thnR (Post.thnR (Post.blkR (Post.thnR ?_)))))
              have hXl2 : windroseref02_Give_l2 a1 a1 0 () = .ret ((((0, [], []) : Int × (List (Int × Bool)) × (List Int)), 2)) := by rw [← hQl2, drop_cons hyl2, windroseref02_Give_l2]; rw [hTc3, LR.seq_go, if_t c40]
              have hM : windroseref02_Give_m a0 a1 = (((0, [], []) : Int × (List (Int × Bool)) × (List Int)), 2) := by rw [windroseref02_Give_m, hEl1, LR.on_go, hXl2, LR.on_ret]
              exact finR2 (v := .agg #[.int .i64 0, .slice none 0 0, .slice none 0 0]) (v' := .int .i64 2) [[], []] rfl (.cellA (cs := [.int .i64 0, .slice none 0 0, .slice none 0 0]) (l := [.int .i64 0, .slice none 0 0, .slice none 0 0]) Tryd.isAgg25 Tryd.sizeOf25 rfl (.tl (.tl .hd)) rfl rfl) (.tmp rfl) (List.sublist_append_left ([[], []] : Own) _) ⟨.slice none 0 0, .slice none 0 0, [], [], by first | rw [hM] | rfl, rfl, by rw [hM]; exact OwnS.nil, by rw [hM]; exact OwnS.nil⟩
            · refine T.set 40 (.bool false) (congrArg Value.bool c40) ?_
              have hZ40 := hTc3.trans c40
              try simp only [or_f, or_t, and_f, and_t, decide_eq_true_eq, decide_eq_false_iff_not, Bool.not_eq_true'] at hZ40
              refine T.skip (Post.blkN ?_)
              refine id (Post.thnN ?_)
              refine T.region ?_
              refine R.addI rfl rfl rfl (by omega) ?_
              refine R.mvE rfl (by conv => lhs; whnf) ?_
              refine TL.nil (Post.thnN ?_)
              exact ⟨kl2 + 1, (s_l2.trans s_c3), ⟨(by omega), (Has.cons .hd Has.nil), (by rw [← hQl2, drop_cons hyl2, windroseref02_Give_l2]; rw [hTc3, LR.seq_go, if_f c40])⟩, by show a1.length - (kl2 + 1) < a1.length - kl2; omega, rfl, rfl, rfl, rfl, rfl, rfl, trivial⟩
        · refine T.exit (Post.thnE (Post.thnE (Post.blkX ?_)))
          have hEl2 : windroseref02_Give_l2 a1 a1 0 () = .go () := (hQl2.symm.trans (by rw [show kl2 = a1.length by omega, List.drop_length, windroseref02_Give_l2]))
          refine id (Post.thnN ?_)
          refine T.seq ?_
          refine T.cutK (ι := Nat × Int × Value × (List (Int × Bool)) × Chunk × Value × (List Int) × Chunk) (fun ⟨b10c4, n10c4_0, v10c4_1, x10c4_1, c10c4_1, v10c4_2, x10c4_2, c10c4_2⟩ H' L' ds' => Has L' [[(b4, .cells #[.int .i64 0, .slice none 0 0, .slice none 0 0] 25)], c10c4_1, c10c4_2, [(b10c4, .cells #[.int .i64 n10c4_0, v10c4_1, v10c4_2] 25)]] ∧ OwnS slotE 101 H' v10c4_1 x10c4_1 c10c4_1 ∧ OwnS (intE .i64) 3 H' v10c4_2 x10c4_2 c10c4_2 ∧ x10c4_1.length = 0 ∧ x10c4_2.length = a0.2.2.length ∧ ((a0.1, [], a0.2.2) : Int × (List (Int × Bool)) × (List Int)) = (n10c4_0, x10c4_1, x10c4_2)) (fun ⟨b10c4, n10c4_0, v10c4_1, x10c4_1, c10c4_1, v10c4_2, x10c4_2, c10c4_2⟩ => [(1, .slice Aa1 a1.length ca1), (2, .pointer (some ⟨b2, 0, none⟩)), (4, .pointer (some ⟨b4, 0, none⟩)), (10, .pointer (some ⟨b10c4, 0, none⟩))]) ?_ ?_
          · refine T.draw Tryd_mixed (by kernel_rfl) ?_
            refine Plan.v 0 [1, 2, 3, 4, 5, 6, 7, 8] (by kernel_rfl) (by kernel_rfl) (by kernel_rfl) (by kernel_rfl) rfl (fun _ _ h_ => R.fldA Tryd.underlying25 rfl Tryd.sizeOf3 (by decide) rfl rfl (TL.nil h_)) ?_
            refine Plan.v 1 [2, 3, 4, 5, 6, 7, 8] (by kernel_rfl) (by kernel_rfl) (by kernel_rfl) (by kernel_rfl) rfl (fun _ _ h_ => R.ldH Tryd.isAgg3 rfl rfl ((s_l1.trans s_l2) _ _ hb2_1) rfl (TL.nil h_)) ?_
            refine Plan.v 3 [2, 4, 5, 6, 7, 8] (by kernel_rfl) (by kernel_rfl) (by kernel_rfl) (by kernel_rfl) rfl (fun _ _ h_ => R.fldA Tryd.underlying25 rfl Tryd.sizeOf23 (by decide) rfl rfl (TL.nil h_)) ?_
            refine Plan.v 4 [2, 5, 6, 7, 8] (by kernel_rfl) (by kernel_rfl) (by kernel_rfl) (by kernel_rfl) rfl (fun _ _ h_ => R.ldH Tryd.isAgg23 rfl rfl ((s_l1.trans s_l2) _ _ hb2_1) rfl (TL.nil h_)) ?_
            refine Plan.s2 2 7 [5, 6, 7, 8] [2, 5, 6, 8] (by kernel_rfl) (by kernel_rfl) (by kernel_rfl) rfl rfl ?_ ?_
            · refine R.bs0 (E := (intE .i64)) rfl Tryd.underlying23 Tryd.sizeOf3 ?_
              intro v45 c45 w45
              obtain ⟨A45, p45, rfl, m45, n45⟩ := w45.shape
              refine TL.nil (Plan.e1 (HLe.refl _) ?_)
              refine Plan.s2 5 7 [6, 7, 8] [5, 6, 8] (by kernel_rfl) (by kernel_rfl) (by kernel_rfl) rfl rfl ?_ ?_
              · obtain ⟨k48, y48, r48⟩ := Src.rdA (ha0_2.mono (sb2_1.trans (s_l1.trans s_l2)))
                refine R.app (E := (intE .i64)) (e := 3) (xs := []) (ys := a0.2.2) Tryd_ty23 rfl rfl rfl w45 .hd (r48 _) y48 (by (try simp only [List.length_append, List.length_cons, List.length_nil, List.length_replicate, List.length_take, List.length_drop]); omega) (by (try simp only [List.length_append, List.length_cons, List.length_nil, List.length_replicate, List.length_take, List.length_drop]); omega) ?_
                intro v48 c48 w48
                have w48 : OwnS (intE .i64) 3 H_l2 v48 a0.2.2 c48 := w48
                obtain ⟨A48, p48, rfl, m48, n48⟩ := OwnS.shape w48
                refine TL.nil (Plan.e1 (HLe.refl _) ?_)
                refine Plan.v 6 [7, 8] (by kernel_rfl) (by kernel_rfl) (by kernel_rfl) (by kernel_rfl) rfl (fun _ _ h_ => R.bld (cs := [.int .i64 (a0.1), .slice none 0 0, .slice A48 a0.2.2.length p48]) rfl (fun _ => by kernel_rfl) (TL.nil h_)) ?_
                refine Plan.s1 7 [8] (by kernel_rfl) (by kernel_rfl) rfl ?_
                refine R.alloc Tryd.zeroValue25 rfl ?_
                intro b10
                refine TL.nil (Plan.e1 (HLe.refl _) ?_)
                refine Plan.s1 8 [] (by kernel_rfl) (by kernel_rfl) rfl ?_
                refine R.stX (old := [.int .i64 0, .slice none 0 0, .slice none 0 0]) (l := [.int .i64 (a0.1), .slice none 0 0, .slice A48 a0.2.2.length p48]) (new := [.int .i64 (a0.1), .slice none 0 0, .slice A48 a0.2.2.length p48]) (et := 25) Tryd.sizeOf25 rfl rfl rfl rfl rfl (by show 0 + 3 ≤ 3; decide) rfl (all_one rfl) .hd ?_
                refine TL.nil (Plan.e0 (HLe.refl _) ?_)
                refine Plan.done (Post.thnN ?_)
                exact ⟨(b10, a0.1, .slice none 0 0, [], [], .slice A48 a0.2.2.length p48, a0.2.2, c48), HLe.refl _, ⟨(Has.cons (.tl (.tl .hd)) (Has.none (Has.cons (.tl .hd) (Has.cons .hd Has.nil)))), OwnS.nil, w48, (by first | omega | (simp; done) | (simp; omega) | (simp at *; omega)), (by first | omega | (simp; done) | (simp; omega) | (simp at *; omega)), (by rfl)⟩, rfl, rfl, rfl, rfl, trivial⟩
              · refine R.alloc Tryd.zeroValue25 rfl ?_
                intro b10
                refine TL.nil (Plan.e1 (HLe.refl _) ?_)
                refine Plan.s1 5 [6, 8] (by kernel_rfl) (by kernel_rfl) rfl ?_
                obtain ⟨k48, y48, r48⟩ := Src.rdA (ha0_2.mono (sb2_1.trans (s_l1.trans s_l2)))
                refine R.app (E := (intE .i64)) (e := 3) (xs := []) (ys := a0.2.2) Tryd_ty23 rfl rfl rfl w45 (.tl .hd) (r48 _) y48 (by (try simp only [List.length_append, List.length_cons, List.length_nil, List.length_replicate, List.length_take, List.length_drop]); omega) (by (try simp only [List.length_append, List.length_cons, List.length_nil, List.length_replicate, List.length_take, List.length_drop]); omega) ?_
                intro v48 c48 w48
                have w48 : OwnS (intE .i64) 3 H_l2 v48 a0.2.2 c48 := w48
                obtain ⟨A48, p48, rfl, m48, n48⟩ := OwnS.shape w48
                refine TL.nil (Plan.e1 (HLe.refl _) ?_)
                refine Plan.v 6 [8] (by kernel_rfl) (by kernel_rfl) (by kernel_rfl) (by kernel_rfl) rfl (fun _ _ h_ => R.bld (cs := [.int .i64 (a0.1), .slice none 0 0, .slice A48 a0.2.2.length p48]) rfl (fun _ => by kernel_rfl) (TL.nil h_)) ?_
                refine Plan.s1 8 [] (by kernel_rfl) (by kernel_rfl) rfl ?_
                refine R.stX (old := [.int .i64 0, .slice none 0 0, .slice none 0 0]) (l := [.int .i64 (a0.1), .slice none 0 0, .slice A48 a0.2.2.length p48]) (new := [.int .i64 (a0.1), .slice none 0 0, .slice A48 a0.2.2.length p48]) (et := 25) Tryd.sizeOf25 rfl rfl rfl rfl rfl (by show 0 + 3 ≤ 3; decide) rfl (all_one rfl) (.tl .hd) ?_
                refine TL.nil (Plan.e0 (HLe.refl _) ?_)
                refine Plan.done (Post.thnN ?_)
                exact ⟨(b10, a0.1, .slice none 0 0, [], [], .slice A48 a0.2.2.length p48, a0.2.2, c48), HLe.refl _, ⟨(Has.cons (.tl (.tl .hd)) (Has.none (Has.cons .hd (Has.cons .hd Has.nil)))), OwnS.nil, w48, (by first | omega | (simp; done) | (simp; omega) | (simp at *; omega)), (by first | omega | (simp; done) | (simp; omega) | (simp at *; omega)), (by rfl)⟩, rfl, rfl, rfl, rfl, trivial⟩
            · refine R.alloc Tryd.zeroValue25 rfl ?_
              intro b10
              refine TL.nil (Plan.e1 (HLe.refl _) ?_)
              refine Plan.s1 2 [5, 6, 8] (by kernel_rfl) (by kernel_rfl) rfl ?_
              refine R.bs0 (E := (intE .i64)) rfl Tryd.underlying23 Tryd.sizeOf3 ?_
              intro v45 c45 w45
              obtain ⟨A45, p45, rfl, m45, n45⟩ := w45.shape
              refine TL.nil (Plan.e1 (HLe.refl _) ?_)
              refine Plan.s1 5 [6, 8] (by kernel_rfl) (by kernel_rfl) rfl ?_
              obtain ⟨k48, y48, r48⟩ := Src.rdA (ha0_2.mono (sb2_1.trans (s_l1.trans s_l2)))
              refine R.app (E := (intE .i64)) (e := 3) (xs := []) (ys := a0.2.2) Tryd_ty23 rfl rfl rfl w45 .hd (r48 _) y48 (by (try simp only [List.length_append, List.length_cons, List.length_nil, List.length_replicate, List.length_take, List.length_drop]); omega) (by (try simp only [List.length_append, List.length_cons, List.length_nil, List.length_replicate, List.length_take, List.length_drop]); omega) ?_
              intro v48 c48 w48
              have w48 : OwnS (intE .i64) 3 H_l2 v48 a0.2.2 c48 := w48
              obtain ⟨A48, p48, rfl, m48, n48⟩ := OwnS.shape w48
              refine TL.nil (Plan.e1 (HLe.refl _) ?_)
              refine Plan.v 6 [8] (by kernel_rfl) (by kernel_rfl) (by kernel_rfl) (by kernel_rfl) rfl (fun _ _ h_ => R.bld (cs := [.int .i64 (a0.1), .slice none 0 0, .slice A48 a0.2.2.length p48]) rfl (fun _ => by kernel_rfl) (TL.nil h_)) ?_
              refine Plan.s1 8 [] (by kernel_rfl) (by kernel_rfl) rfl ?_
              refine R.stX (old := [.int .i64 0, .slice none 0 0, .slice none 0 0]) (l := [.int .i64 (a0.1), .slice none 0 0, .slice A48 a0.2.2.length p48]) (new := [.int .i64 (a0.1), .slice none 0 0, .slice A48 a0.2.2.length p48]) (et := 25) Tryd.sizeOf25 rfl rfl rfl rfl rfl (by show 0 + 3 ≤ 3; decide) rfl (all_one rfl) (.tl .hd) ?_
              refine TL.nil (Plan.e0 (HLe.refl _) ?_)
              refine Plan.done (Post.thnN ?_)
              exact ⟨(b10, a0.1, .slice none 0 0, [], [], .slice A48 a0.2.2.length p48, a0.2.2, c48), HLe.refl _, ⟨(Has.cons (.tl (.tl .hd)) (Has.none (Has.cons .hd (Has.cons .hd Has.nil)))), OwnS.nil, w48, (by first | omega | (simp; done) | (simp; omega) | (simp at *; omega)), (by first | omega | (simp; done) | (simp; omega) | (simp at *; omega)), (by rfl)⟩, rfl, rfl, rfl, rfl, trivial⟩
          · intro ⟨b10c4, n10c4_0, v10c4_1, x10c4_1, c10c4_1, v10c4_2, x10c4_2, c10c4_2⟩ σ_c4 H_c4 L_c4 ds_c4 s_c4 hI_c4
            obtain ⟨hLc4, w10c4_1, w10c4_2, hBc4_0, hBc4_1, hTc4⟩ := hI_c4
            obtain ⟨A10c4_1, p10c4_1, rfl, m10c4_1, n10c4_1_⟩ := OwnS.shape w10c4_1
            obtain ⟨A10c4_2, p10c4_2, rfl, m10c4_2, n10c4_2_⟩ := OwnS.shape w10c4_2
            refine T.has hLc4 ?_
            refine T.seq ?_
            refine T.seq ?_
            refine T.region ?_
            refine R.fldA Tryd.underlying25 rfl Tryd.sizeOf22 (by decide) rfl rfl ?_
            refine R.ldH Tryd.isAgg22 rfl rfl ((s_l1.trans (s_l2.trans s_c4)) _ _ hb2_1) rfl ?_
            refine R.len Tryd.underlying22 rfl rfl ?_
            refine R.mvE rfl (by conv => lhs; whnf) ?_
            refine TL.nil (Post.thnN ?_)
            refine T.block ?_
            refine T.loop (ι := Nat × Int × Value × (List (Int × Bool)) × Chunk × Value × (List Int) × Chunk) (fun ⟨kl5, nb10c4l5_0, vb10c4l5_1, xb10c4l5_1, cb10c4l5_1, vb10c4l5_2, xb10c4l5_2, cb10c4l5_2⟩ H' L' ds' => kl5 ≤ a0.2.1.length ∧ Has L' [[(b4, .cells #[.int .i64 0, .slice none 0 0, .slice none 0 0] 25)], [(b10c4, .cells #[.int .i64 nb10c4l5_0, vb10c4l5_1, vb10c4l5_2] 25)], cb10c4l5_1, cb10c4l5_2] ∧ OwnS slotE 101 H' vb10c4l5_1 xb10c4l5_1 cb10c4l5_1 ∧ OwnS (intE .i64) 3 H' vb10c4l5_2 xb10c4l5_2 cb10c4l5_2 ∧ xb10c4l5_1.length ≤ kl5 ∧ xb10c4l5_2.length ≤ a0.2.2.length + kl5 ∧ windroseref02_Give_l5 a1 (a0.2.1.drop kl5) kl5 ((nb10c4l5_0, xb10c4l5_1, xb10c4l5_2)) = windroseref02_Give_l5 a1 a0.2.1 0 ((n10c4_0, x10c4_1, x10c4_2))) (fun ⟨kl5, nb10c4l5_0, vb10c4l5_1, xb10c4l5_1, cb10c4l5_1, vb10c4l5_2, xb10c4l5_2, cb10c4l5_2⟩ => [(53, .int .i64 (kl5 : Int)), (1, .slice Aa1 a1.length ca1), (4, .pointer (some ⟨b4, 0, none⟩)), (10, .pointer (some ⟨b10c4, 0, none⟩)), (51, .slice Aa0_1 a0.2.1.length ca0_1), (52, .int .i64 (a0.2.1.length : Int))]) (fun ⟨kl5, nb10c4l5_0, vb10c4l5_1, xb10c4l5_1, cb10c4l5_1, vb10c4l5_2, xb10c4l5_2, cb10c4l5_2⟩ => a0.2.1.length - kl5) (0, n10c4_0, .slice A10c4_1 x10c4_1.length p10c4_1, x10c4_1, c10c4_1, .slice A10c4_2 x10c4_2.length p10c4_2, x10c4_2, c10c4_2) ?_ ?_ ?_
            · exact ⟨(by omega), (Has.cons .hd (Has.cons (.tl (.tl .hd)) (Has.cons .hd (Has.cons .hd Has.nil)))), w10c4_1, w10c4_2, (by first | omega | (simp; done) | (simp; omega) | (simp at *; omega)), (by first | omega | (simp; done) | (simp; omega) | (simp at *; omega)), (by rfl)⟩
            · exact ⟨rfl, rfl, rfl, rfl, rfl, rfl, trivial⟩
            · intro ⟨kl5, nb10c4l5_0, vb10c4l5_1, xb10c4l5_1, cb10c4l5_1, vb10c4l5_2, xb10c4l5_2, cb10c4l5_2⟩ σ_l5 H_l5 L_l5 ds_l5 s_l5 hI_l5
              obtain ⟨hkl5, hI_l5⟩ := hI_l5
              obtain ⟨hLl5, wb10c4l5_1, wb10c4l5_2, hBl5_0, hBl5_1, hQl5⟩ := hI_l5
              obtain ⟨Ab10c4l5_1, pb10c4l5_1, rfl, mb10c4l5_1, nb10c4l5_1_⟩ := OwnS.shape wb10c4l5_1
              obtain ⟨Ab10c4l5_2, pb10c4l5_2, rfl, mb10c4l5_2, nb10c4l5_2_⟩ := OwnS.shape wb10c4l5_2
              refine T.has hLl5 ?_
              refine T.seq ?_
              refine T.region ?_
              refine R.lss rfl rfl rfl ?_
              refine TL.nil (Post.thnN ?_)
              refine T.seq ?_
              refine T.condD rfl (fun c54 => ?_) (fun c54 => ?_)
              · have hltl5 : kl5 < a0.2.1.length := by omega
                obtain ⟨yl5, hyl5⟩ := getk (xs := a0.2.1) (k := kl5) (by omega)
                refine T.skip (Post.thnN ?_)
                refine T.seq ?_
                refine T.block ?_
                refine T.seq ?_
                refine T.region ?_
                refine R.mvE rfl (by conv => lhs; whnf) ?_
                obtain ⟨b56, o56, i56, k56⟩ := RdS.elem (ha0_1.mono (sb2_1.trans (s_l1.trans (s_l2.trans (s_c4.trans s_l5))))) hyl5
                obtain ⟨l56, g56, k56⟩ := k56
                obtain rfl : l56 = [.int .i64 (yl5.1), .bool (yl5.2)] := g56
                refine R.ixp Tryd.underlying22 Tryd.sizeOf101 rfl rfl rfl (by omega) i56 ?_
                refine R.ldK (l := [.int .i64 (yl5.1), .bool (yl5.2)]) Tryd.isAgg101 Tryd.sizeOf101 rfl rfl k56 rfl ?_
                refine R.alloc Tryd.zeroValue101 rfl ?_
                intro b12
                refine R.asE rfl (by conv => lhs; whnf) ?_
                refine R.stX (old := [.int .i64 0, .bool false]) (l := [.int .i64 (yl5.1), .bool (yl5.2)]) (new := [.int .i64 (yl5.1), .bool (yl5.2)]) (et := 101) Tryd.sizeOf101 rfl rfl rfl rfl rfl (by show 0 + 2 ≤ 2; decide) rfl (all_one rfl) .hd ?_
                refine TL.nil (Post.thnN ?_)
                refine T.seq ?_
                refine T.seq ?_
                refine T.region ?_
                refine R.mvE rfl (by conv => lhs; whnf) ?_
                refine R.mvE rfl (by conv => lhs; whnf) ?_
                refine R.addI rfl rfl rfl (by omega) ?_
                refine R.fldA Tryd.underlying101 rfl Tryd.sizeOf3 (by decide) rfl rfl ?_
                refine R.ld Tryd.isAgg3 rfl rfl .hd rfl ?_
                refine R.callv rfl rfl rfl (windroseref02_Entity_c _ (((kl5 : Int) + 1)) (yl5.1)) ?_
                obtain ⟨r64, er64⟩ : ∃ r, r = (windroseref02_has_m a1 ((windroseref02_Entity_m (((kl5 : Int) + 1)) yl5.1))) := ⟨_, rfl⟩
                refine R.callv (v := .bool r64) rfl rfl rfl (by rw [er64]; exact windroseref02_has_c _ _ a1 (ha1.mono (sb2_1.trans (s_l1.trans (s_l2.trans (s_c4.trans s_l5))))) ((windroseref02_Entity_m (((kl5 : Int) + 1)) yl5.1))) ?_
                refine TL.nil (Post.thnN ?_)
                refine T.cutK (ι := Int × Bool × Int × Value × (List (Int × Bool)) × Chunk × Value × (List Int) × Chunk) (fun ⟨nb12c6_0, bb12c6_1, nb10c4c6_0, vb10c4c6_1, xb10c4c6_1, cb10c4c6_1, vb10c4c6_2, xb10c4c6_2, cb10c4c6_2⟩ H' L' ds' => Has L' [[(b12, .cells #[.int .i64 nb12c6_0, .bool (bb12c6_1)] 101)], [(b4, .cells #[.int .i64 0, .slice none 0 0, .slice none 0 0] 25)], [(b10c4, .cells #[.int .i64 nb10c4c6_0, vb10c4c6_1, vb10c4c6_2] 25)], cb10c4c6_1, cb10c4c6_2] ∧ OwnS slotE 101 H' vb10c4c6_1 xb10c4c6_1 cb10c4c6_1 ∧ OwnS (intE .i64) 3 H' vb10c4c6_2 xb10c4c6_2 cb10c4c6_2 ∧ xb10c4c6_1.length ≤ kl5 ∧ xb10c4c6_2.length ≤ a0.2.2.length + kl5 + 1 ∧ (if r64 = true then (if yl5.1 < 7 then ((yl5.1, false, nb10c4l5_0, xb10c4l5_1, (xb10c4l5_2 ++ [((kl5 : Int) + 1)]))) else ((yl5.1, false, nb10c4l5_0, xb10c4l5_1, xb10c4l5_2))) else ((yl5.1, yl5.2, nb10c4l5_0, xb10c4l5_1, xb10c4l5_2)) : Int × Bool × Int × (List (Int × Bool)) × (List Int)) = (nb12c6_0, bb12c6_1, nb10c4c6_0, xb10c4c6_1, xb10c4c6_2)) (fun ⟨nb12c6_0, bb12c6_1, nb10c4c6_0, vb10c4c6_1, xb10c4c6_1, cb10c4c6_1, vb10c4c6_2, xb10c4c6_2, cb10c4c6_2⟩ => [(1, .slice Aa1 a1.length ca1), (4, .pointer (some ⟨b4, 0, none⟩)), (10, .pointer (some ⟨b10c4, 0, none⟩)), (12, .pointer (some ⟨b12, 0, none⟩)), (51, .slice Aa0_1 a0.2.1.length ca0_1), (52, .int .i64 (a0.2.1.length : Int)), (53, .int .i64 (kl5 : Int))]) ?_ ?_
                · refine T.cond rfl (fun c64 => ?_) (fun c64 => ?_)
                  · refine T.set 64 (.bool true) (congrArg Value.bool c64) ?_
                    refine T.seq ?_
                    refine T.region ?_
                    refine R.fldA Tryd.underlying101 rfl Tryd.sizeOf4 (by decide) rfl rfl ?_
                    refine R.stX (old := [.int .i64 (yl5.1), .bool (yl5.2)]) (l := [.bool false]) (new := [.int .i64 (yl5.1), .bool false]) (et := 101) Tryd.sizeOf4 rfl rfl rfl (cells1 rfl) rfl (by show 1 + 1 ≤ 2; decide) rfl (all_one rfl) .hd ?_
                    refine TL.nil (Post.thnN ?_)
                    refine T.seq ?_
                    refine T.region ?_
                    refine R.fldA Tryd.underlying101 rfl Tryd.sizeOf3 (by decide) rfl rfl ?_
                    refine R.ld Tryd.isAgg3 rfl rfl .hd rfl ?_
                    refine R.lss rfl rfl rfl ?_
                    refine TL.nil (Post.thnN ?_)
                    refine T.condD rfl (fun c68 => ?_) (fun c68 => ?_)
                    · refine T.set 68 (.bool true) (congrArg Value.bool (decide_eq_true c68)) ?_
                      refine T.region ?_
                      refine R.fldA Tryd.underlying25 rfl Tryd.sizeOf23 (by decide) rfl rfl ?_
                      refine R.ld Tryd.isAgg23 rfl rfl (.tl (.tl .hd)) rfl ?_
                      refine R.mvE rfl (by conv => lhs; whnf) ?_
                      refine R.addI rfl rfl rfl (by omega) ?_
                      refine R.bs rfl (run_buildSlice1 Tryd.underlying23 Tryd.sizeOf3 Tryd.zeroValue3 rfl rfl) ?_
                      intro b73
                      have w73 : OwnS (intE .i64) 3 H_l5 (.slice (some ⟨b73, 0, none⟩) 1 1) [((kl5 : Int) + 1)] [(b73, .cells #[.int .i64 ((kl5 : Int) + 1)] 3)] := OwnS.lit (xs := [((kl5 : Int) + 1)]) (cellsOf_cons (a := [.int .i64 ((kl5 : Int) + 1)]) rfl cellsOf_nil) (by show 1 ≤ maxLen; decide)
                      obtain ⟨k74, y74, r74⟩ := Src.ownA w73
                      refine R.app (E := (intE .i64)) (e := 3) (xs := xb10c4l5_2) (ys := [((kl5 : Int) + 1)]) Tryd_ty23 rfl rfl rfl wb10c4l5_2 (.tl (.tl (.tl (.tl (.tl .hd))))) (r74 _ .hd) y74 (by (try simp only [List.length_append, List.length_cons, List.length_nil, List.length_replicate, List.length_take, List.length_drop]); omega) (by (try simp only [List.length_append, List.length_cons, List.length_nil, List.length_replicate, List.length_take, List.length_drop]); omega) ?_
                      intro v74 c74 w74
                      obtain ⟨A74, p74, rfl, m74, n74⟩ := OwnS.shape w74
                      refine TL.del (.tl .hd) ?_
                      refine R.fldA Tryd.underlying25 rfl Tryd.sizeOf23 (by decide) rfl rfl ?_
                      refine R.stX (old := [.int .i64 nb10c4l5_0, .slice Ab10c4l5_1 xb10c4l5_1.length pb10c4l5_1, .slice Ab10c4l5_2 xb10c4l5_2.length pb10c4l5_2]) (l := [.slice A74 (xb10c4l5_2 ++ [((kl5 : Int) + 1)]).length p74]) (new := [.int .i64 nb10c4l5_0, .slice Ab10c4l5_1 xb10c4l5_1.length pb10c4l5_1, .slice A74 (xb10c4l5_2 ++ [((kl5 : Int) + 1)]).length p74]) (et := 25) Tryd.sizeOf23 rfl rfl rfl (cells1 rfl) rfl (by show 2 + 1 ≤ 3; decide) rfl (all_one rfl) (.tl (.tl (.tl .hd))) ?_
                      refine TL.nil (Post.thnN ?_)
                      exact ⟨(yl5.1, false, nb10c4l5_0, .slice Ab10c4l5_1 xb10c4l5_1.length pb10c4l5_1, xb10c4l5_1, cb10c4l5_1, .slice A74 (xb10c4l5_2 ++ [((kl5 : Int) + 1)]).length p74, (xb10c4l5_2 ++ [((kl5 : Int) + 1)]), c74), HLe.refl _, ⟨(Has.cons (.tl .hd) (Has.cons (.tl .hd) (Has.cons (.tl .hd) (Has.cons (.tl .hd) (Has.cons .hd Has.nil))))), wb10c4l5_1, w74, (by first | omega | (simp; done) | (simp; omega) | (simp at *; omega)), (by first | omega | (simp; done) | (simp; omega) | (simp at *; omega)), (by rw [if_t c64, if_pos c68])⟩, rfl, rfl, rfl, rfl, rfl, rfl, rfl, trivial⟩
                    · refine T.set 68 (.bool false) (congrArg Value.bool (decide_eq_false c68)) ?_
                      refine T.skip (Post.thnN ?_)
                      exact ⟨(yl5.1, false, nb10c4l5_0, .slice Ab10c4l5_1 xb10c4l5_1.length pb10c4l5_1, xb10c4l5_1, cb10c4l5_1, .slice Ab10c4l5_2 xb10c4l5_2.length pb10c4l5_2, xb10c4l5_2, cb10c4l5_2), HLe.refl _, ⟨(Has.cons .hd (Has.cons .hd (Has.cons .hd (Has.cons .hd (Has.cons .hd Has.nil))))), wb10c4l5_1, wb10c4l5_2, (by first | omega | (simp; done) | (simp; omega) | (simp at *; omega)), (by first | omega | (simp; done) | (simp; omega) | (simp at *; omega)), (by rw [if_t c64, if_neg c68])⟩, rfl, rfl, rfl, rfl, rfl, rfl, rfl, trivial⟩
                  · refine T.set 64 (.bool false) (congrArg Value.bool c64) ?_
                    refine T.skip (Post.thnN ?_)
                    exact ⟨(yl5.1, yl5.2, nb10c4l5_0, .slice Ab10c4l5_1 xb10c4l5_1.length pb10c4l5_1, xb10c4l5_1, cb10c4l5_1, .slice Ab10c4l5_2 xb10c4l5_2.length pb10c4l5_2, xb10c4l5_2, cb10c4l5_2), HLe.refl _, ⟨(Has.cons .hd (Has.cons .hd (Has.cons .hd (Has.cons .hd (Has.cons .hd Has.nil))))), wb10c4l5_1, wb10c4l5_2, (by first | omega | (simp; done) | (simp; omega) | (simp at *; omega)), (by first | omega | (simp; done) | (simp; omega) | (simp at *; omega)), (by rw [if_f c64])⟩, rfl, rfl, rfl, rfl, rfl, rfl, rfl, trivial⟩
                · intro ⟨nb12c6_0, bb12c6_1, nb10c4c6_0, vb10c4c6_1, xb10c4c6_1, cb10c4c6_1, vb10c4c6_2, xb10c4c6_2, cb10c4c6_2⟩ σ_c6 H_c6 L_c6 ds_c6 s_c6 hI_c6
                  obtain ⟨hLc6, wb10c4c6_1, wb10c4c6_2, hBc6_0, hBc6_1, hTc6⟩ := hI_c6
                  obtain ⟨Ab10c4c6_1, pb10c4c6_1, rfl, mb10c4c6_1, nb10c4c6_1_⟩ := OwnS.shape wb10c4c6_1
                  obtain ⟨Ab10c4c6_2, pb10c4c6_2, rfl, mb10c4c6_2, nb10c4c6_2_⟩ := OwnS.shape wb10c4c6_2
                  refine T.has hLc6 ?_
                  refine T.region ?_
                  refine R.fldA Tryd.underlying25 rfl Tryd.sizeOf22 (by decide) rfl rfl ?_
                  refine R.ld Tryd.isAgg22 rfl rfl (.tl (.tl .hd)) rfl ?_
                  refine R.ldX (cs := [.int .i64 nb12c6_0, .bool (bb12c6_1)]) (l := [.int .i64 nb12c6_0, .bool (bb12c6_1)]) Tryd.isAgg101 Tryd.sizeOf101 rfl rfl .hd rfl rfl ?_
                  refine R.bs (e := 101) (cs := [.int .i64 nb12c6_0, .bool (bb12c6_1)]) rfl (fun _ => by kernel_rfl) ?_
                  intro b79
                  have w79 : OwnS slotE 101 H_c6 (.slice (some ⟨b79, 0, none⟩) 1 1) [(nb12c6_0, bb12c6_1)] [(b79, .cells #[.int .i64 nb12c6_0, .bool (bb12c6_1)] 101)] := OwnS.lit (xs := [(nb12c6_0, bb12c6_1)]) (cellsOf_cons (a := [.int .i64 nb12c6_0, .bool (bb12c6_1)]) rfl cellsOf_nil) (by show 1 ≤ maxLen; decide)
                  obtain ⟨k80, y80, r80⟩ := Src.ownA w79
                  refine R.app (E := slotE) (e := 101) (xs := xb10c4c6_1) (ys := [(nb12c6_0, bb12c6_1)]) Tryd_ty22 rfl rfl rfl wb10c4c6_1 (.tl (.tl (.tl (.tl .hd)))) (r80 _ .hd) y80 (by (try simp only [List.length_append, List.length_cons, List.length_nil, List.length_replicate, List.length_take, List.length_drop]); omega) (by (try simp only [List.length_append, List.length_cons, List.length_nil, List.length_replicate, List.length_take, List.length_drop]); omega) ?_
                  intro v80 c80 w80
                  obtain ⟨A80, p80, rfl, m80, n80⟩ := OwnS.shape w80
                  refine TL.del (.tl .hd) ?_
                  refine R.fldA Tryd.underlying25 rfl Tryd.sizeOf22 (by decide) rfl rfl ?_
                  refine R.stX (old := [.int .i64 nb10c4c6_0, .slice Ab10c4c6_1 xb10c4c6_1.length pb10c4c6_1, .slice Ab10c4c6_2 xb10c4c6_2.length pb10c4c6_2]) (l := [.slice A80 (xb10c4c6_1 ++ [(nb12c6_0, bb12c6_1)]).length p80]) (new := [.int .i64 nb10c4c6_0, .slice A80 (xb10c4c6_1 ++ [(nb12c6_0, bb12c6_1)]).length p80, .slice Ab10c4c6_2 xb10c4c6_2.length pb10c4c6_2]) (et := 25) Tryd.sizeOf22 rfl rfl rfl (cells1 rfl) rfl (by show 1 + 1 ≤ 3; decide) rfl (all_one rfl) (.tl (.tl (.tl .hd))) ?_
                  refine TL.nil (Post.blkN ?_)
                  refine id (Post.thnN ?_)
                  refine T.region ?_
                  refine R.addI rfl rfl rfl (by omega) ?_
                  refine R.mvE rfl (by conv => lhs; whnf) ?_
                  refine TL.nil (Post.thnN ?_)
                  exact ⟨(kl5 + 1, nb10c4c6_0, .slice A80 (xb10c4c6_1 ++ [(nb12c6_0, bb12c6_1)]).length p80, (xb10c4c6_1 ++ [(nb12c6_0, bb12c6_1)]), c80, .slice Ab10c4c6_2 xb10c4c6_2.length pb10c4c6_2, xb10c4c6_2, cb10c4c6_2), (s_l5.trans s_c6), ⟨(by omega), (Has.cons (.tl (.tl .hd)) (Has.cons (.tl (.tl .hd)) (Has.cons .hd (Has.cons (.tl .hd) Has.nil)))), w80, wb10c4c6_2, (by first | omega | (simp; done) | (simp; omega) | (simp at *; omega)), (by first | omega | (simp; done) | (simp; omega) | (simp at *; omega)), (by subst er64; rw [← hQl5, drop_cons hyl5, windroseref02_Give_l5]; rw [LR.seq_go, hTc6, LR.seq_go])⟩, by show a0.2.1.length - (kl5 + 1) < a0.2.1.length - kl5; omega, rfl, rfl, rfl, rfl, rfl, rfl, trivial⟩
              · refine T.exit (Post.thnE (Post.thnE (Post.blkX ?_)))
                have hEl5 : windroseref02_Give_l5 a1 a0.2.1 0 ((n10c4_0, x10c4_1, x10c4_2)) = (nb10c4l5_0, xb10c4l5_1, xb10c4l5_2) := (hQl5.symm.trans (by rw [show kl5 = a0.2.1.length by omega, List.drop_length, windroseref02_Give_l5]))
                refine id (Post.thnN ?_)
                refine T.seq ?_
                refine T.region ?_
                refine R.ldX (cs := [.int .i64 nb10c4l5_0, .slice Ab10c4l5_1 xb10c4l5_1.length pb10c4l5_1, .slice Ab10c4l5_2 xb10c4l5_2.length pb10c4l5_2]) (l := [.int .i64 nb10c4l5_0, .slice Ab10c4l5_1 xb10c4l5_1.length pb10c4l5_1, .slice Ab10c4l5_2 xb10c4l5_2.length pb10c4l5_2]) Tryd.isAgg25 Tryd.sizeOf25 rfl rfl (.tl .hd) rfl rfl ?_
                refine R.stX (old := [.int .i64 0, .slice none 0 0, .slice none 0 0]) (l := [.int .i64 nb10c4l5_0, .slice Ab10c4l5_1 xb10c4l5_1.length pb10c4l5_1, .slice Ab10c4l5_2 xb10c4l5_2.length pb10c4l5_2]) (new := [.int .i64 nb10c4l5_0, .slice Ab10c4l5_1 xb10c4l5_1.length pb10c4l5_1, .slice Ab10c4l5_2 xb10c4l5_2.length pb10c4l5_2]) (et := 25) Tryd.sizeOf25 rfl rfl rfl rfl rfl (by show 0 + 3 ≤ 3; decide) rfl (all_one rfl) .hd ?_
                refine R.asE rfl (by conv => lhs; whnf) ?_
                refine TL.nil (Post.thnN ?_)
                refine T.has (Has.cons (.tl (.tl .hd)) (Has.cons (.tl (.tl .hd)) (Has.cons .hd Has.nil))) ?_
                refine T.ret ?_
                have hM : windroseref02_Give_m a0 a1 = ((nb10c4l5_0, xb10c4l5_1, xb10c4l5_2), 0) := by rw [windroseref02_Give_m, hEl1, LR.on_go, hEl2, LR.on_go, hTc4, LR.seq_go, hEl5, LR.seq_go]
                exact finR2 (v := .agg #[.int .i64 nb10c4l5_0, .slice Ab10c4l5_1 xb10c4l5_1.length pb10c4l5_1, .slice Ab10c4l5_2 xb10c4l5_2.length pb10c4l5_2]) (v' := .int .i64 0) [cb10c4l5_1, cb10c4l5_2] rfl (.cellA (cs := [.int .i64 nb10c4l5_0, .slice Ab10c4l5_1 xb10c4l5_1.length pb10c4l5_1, .slice Ab10c4l5_2 xb10c4l5_2.length pb10c4l5_2]) (l := [.int .i64 nb10c4l5_0, .slice Ab10c4l5_1 xb10c4l5_1.length pb10c4l5_1, .slice Ab10c4l5_2 xb10c4l5_2.length pb10c4l5_2]) Tryd.isAgg25 Tryd.sizeOf25 rfl (.tl (.tl .hd)) rfl rfl) (.tmp rfl) (List.sublist_append_left ([cb10c4l5_1, cb10c4l5_2] : Own) _) ⟨.slice Ab10c4l5_1 xb10c4l5_1.length pb10c4l5_1, .slice Ab10c4l5_2 xb10c4l5_2.length pb10c4l5_2, cb10c4l5_1, cb10c4l5_2, by first | rw [hM] | rfl, rfl, by rw [hM]; exact wb10c4l5_1, by rw [hM]; exact wb10c4l5_2⟩

end Go.SX

set_option linter.unusedVariables false
set_option linter.unusedSimpArgs false
namespace Go.SX
open Go
def entI (i g : Int) : Int := i + g * 4294967296
theorem packed_eq {g i : Int} (hg : 0 ≤ g ∧ g ≤ 7) (hi : 0 ≤ i ∧ i ≤ 1048578) : ident_packed_m 0 g i = entI i g := by
  unfold ident_packed_m entI
  have := pack_eq (m := 0) (a := g) (b := i) (.inl rfl) (by omega) (by omega)
  rw [this]; unfold made; omega
theorem entity_ok {i g : Int} (hi : 1 ≤ i ∧ i ≤ 1048578) (hg : 0 ≤ g ∧ g ≤ 7) : ident_Entity_m i g = (entI i g, 0) := by
  unfold ident_Entity_m
  rw [within1.2 hi, within1.2 hg, packed_eq hg ⟨by omega, hi.2⟩]; rfl
theorem entity_ref {i g : Int} (hi : 0 ≤ i ∧ i ≤ 1048578) (hg : 0 ≤ g ∧ g ≤ 7) : windroseref02_Entity_m i g = entI i g := by
  unfold windroseref02_Entity_m entI
  rw [wrap_u64 (x := i) ⟨by omega, by omega⟩, wrap_u64 (x := g) ⟨by omega, by omega⟩, bshl32 ⟨by omega, by omega⟩, wrap_u64 ⟨by omega, by omega⟩]
theorem alive_l1 : ∀ (l : List Sl2) (n : Int), -2 ≤ n → n + l.length ≤ 4000000 → windroseref02_alive_l1 l n = n + aliveN l
  | [], n, _, _ => by simp [windroseref02_alive_l1, aliveN]
  | y :: ys, n, h1, h2 => by
    simp only [List.length_cons] at h2
    rw [windroseref02_alive_l1]
    cases h : y.2 with
    | true =>
      rw [if_pos rfl, wrap_i64 (by omega) (by omega), alive_l1 ys _ (by omega) (by omega)]
      simp only [aliveN, List.countP_cons, h, if_true]; omega
    | false =>
      rw [if_neg (by decide), alive_l1 ys _ h1 (by omega)]
      simp [aliveN, h]
theorem alive_ref {a : Al} (h : a.2.1.length ≤ 2000000) : windroseref02_alive_m a = (aliveN a.2.1 : Int) - 2 := by
  unfold windroseref02_alive_m
  simp only [LR.seq]
  rw [alive_l1 _ _ (by omega) (by omega)]; omega
def noAl : Al := (0, [], [])
/-- The last of those that may be used again. -/
def lastF (a : Al) : Int := a.2.2.getD (a.2.2.length - 1) 0
def genAt (l : List Sl2) (i : Int) : Int := (l.getD (i - 1).toNat (0, false)).1
def takeP (a : Al) : Al × Int × Int :=
  if (aliveN a.2.1 : Int) - 2 = a.1 then (noAl, 0, 6)
  else if a.2.2.length = 0 then (if (a.2.1.length : Int) < a.1 + 2 then ((a.1, a.2.1 ++ [(0, true)], []), (a.2.1.length : Int) + 1, 0) else (noAl, 0, 121))
  else ((a.1, a.2.1.set (lastF a - 1).toNat (genAt a.2.1 (lastF a) + 1, true), a.2.2.take (a.2.2.length - 1)), entI (lastF a) (genAt a.2.1 (lastF a) + 1), 0)
theorem Rt.last {a : Al} (h : Rt a) (h0 : a.2.2.length ≠ 0) : ∃ (j : Nat) (g : Int), lastF a = (j : Int) + 1 ∧ a.2.1[j]? = some (g, false) ∧ 0 ≤ g ∧ g < 7 ∧ 2 ≤ j ∧ genAt a.2.1 (lastF a) = g := by
  have hm : lastF a ∈ a.2.2 := by
    unfold lastF
    exact List.mem_of_getElem? (getD_get (by omega))
  obtain ⟨j, s, h1, h2, h3⟩ := h.free.1 hm
  obtain ⟨g, b⟩ := s
  simp [useB] at h2
  obtain ⟨rfl, h4⟩ := h2
  have hg := h.g j _ h1
  refine ⟨j, g, h3, h1, hg.1, h4, ?_, ?_⟩
  · rcases Nat.lt_or_ge j 2 with h5 | h5
    · have := hg.2.2 h5; simp at this
    · exact h5
  · unfold genAt
    rw [h3, show (((j : Int) + 1) - 1).toNat = j by omega, List.getD_eq_getElem?_getD, h1]; rfl
theorem lastF_toNat (a : Al) : a.2.2.getD (((a.2.2.length : Int) - 1)).toNat 0 = lastF a := by
  unfold lastF
  rw [show (((a.2.2.length : Int) - 1)).toNat = a.2.2.length - 1 by omega]
theorem take_rt {a : Al} (h : Rt a) : alloc_Take_m a = takeP a := by
  have h1 := h.n2
  have h2 := h.m2
  have h3 := h.flen
  have h4 := h.n1
  have h5 := h.m1
  have hwm : IntKind.i64.wrap (a.1 + 2) = a.1 + 2 := wrap_i64 (by omega) (by omega)
  unfold alloc_Take_m takeP
  rw [(check_iff (by omega)).1.2 h, if_neg (by decide), many_eq (by omega)]
  simp only [LR.seq, alloc_own_eq, lastF_toNat, decide_eq_true_eq, hwm]
  by_cases c1 : (aliveN a.2.1 : Int) - 2 = a.1
  · rw [if_pos c1, if_pos c1]; rfl
  rw [if_neg c1, if_neg c1]
  by_cases c2 : a.2.2.length = 0
  · rw [if_neg (by omega), if_pos c2]
    by_cases c3 : (a.2.1.length : Int) < a.1 + 2
    · rw [if_neg (by omega), if_pos c3]
      simp only [LR.on]
      have h0 : a.2.2 = [] := List.length_eq_zero_iff.1 c2
      rw [show (((a.2.1.length : Int) + 1 - 1)).toNat = a.2.1.length by omega, List.getD_eq_getElem?_getD, List.getElem?_append_right (Nat.le_refl _), Nat.sub_self, h0]
      have := entity_ok (i := (a.2.1.length : Int) + 1) (g := 0) (by omega) (by omega)
      simp only [List.getElem?_cons_zero, Option.getD_some, this]
      unfold entI; simp
    · rw [if_pos (by omega), if_neg c3]; rfl
  · rw [if_pos (by omega), if_neg c2]
    simp only [LR.on]
    obtain ⟨j, g, e1, e2, e3, e4, e5, e6⟩ := h.last c2
    have hj := (List.getElem?_eq_some_iff.1 e2).1
    have hw : IntKind.i64.wrap ((a.2.1.getD (lastF a - 1).toNat ((0 : Int), false)).1 + 1) = genAt a.2.1 (lastF a) + 1 := by
      have : (a.2.1.getD (lastF a - 1).toNat ((0 : Int), false)).1 = g := e6
      rw [this, e6]; exact wrap_i64 (by omega) (by omega)
    rw [hw]
    have hset : (a.2.1.set (lastF a - 1).toNat (genAt a.2.1 (lastF a) + 1, true)).getD (lastF a - 1).toNat ((0 : Int), false) = (genAt a.2.1 (lastF a) + 1, true) := by
      rw [List.getD_eq_getElem?_getD, List.getElem?_set_self (by rw [e1]; omega)]; rfl
    rw [hset]
    have := entity_ok (i := lastF a) (g := genAt a.2.1 (lastF a) + 1) (by omega) (by omega)
    simp only [this]
    rw [show (((a.2.2.length : Int) - 1)).toNat = a.2.2.length - 1 by omega]
theorem take_not {a : Al} (hs : a.2.1.length ≤ 2000000) (h : ¬ Rt a) : alloc_Take_m a = (noAl, 0, 120) := by
  have h1 : alloc_Check_m a = 120 := by
    rcases (check_iff hs).2 with h2 | h2
    · exact absurd ((check_iff hs).1.1 h2) h
    · exact h2
  unfold alloc_Take_m
  rw [h1, if_pos (by decide)]; rfl
theorem take_ref {a : Al} (h : Rt a) : windroseref02_Take_m a = takeP a := by
  have h1 := h.n2
  have h2 := h.m2
  have h3 := h.flen
  have h4 := h.n1
  have h5 := h.m1
  unfold windroseref02_Take_m takeP
  rw [alive_ref (by omega)]
  simp only [LR.seq, lastF_toNat]
  by_cases c1 : (aliveN a.2.1 : Int) - 2 = a.1
  · rw [if_pos c1, if_pos c1]; rfl
  rw [if_neg c1, if_neg c1]
  by_cases c2 : a.2.2.length = 0
  · rw [if_neg (by omega), if_pos c2, wrap_i64 (x := a.1 + 2) (by omega) (by omega)]
    by_cases c3 : (a.2.1.length : Int) < a.1 + 2
    · rw [if_pos c3, if_pos c3]
      have := entity_ref (i := (a.2.1.length : Int) + 1) (g := 0) (by omega) (by omega)
      rw [List.length_append, List.length_cons, List.length_nil]
      rw [show (((a.2.1.length + (0 + 1) : Nat)) : Int) = (a.2.1.length : Int) + 1 by omega, this]
      unfold entI; simp
    · rw [if_neg c3, if_neg c3]; rfl
  · rw [if_pos (by omega), if_neg c2]
    obtain ⟨j, g, e1, e2, e3, e4, e5, e6⟩ := h.last c2
    have hj := (List.getElem?_eq_some_iff.1 e2).1
    have hw : IntKind.i64.wrap ((a.2.1.getD (lastF a - 1).toNat ((0 : Int), false)).1 + 1) = genAt a.2.1 (lastF a) + 1 := by
      have : (a.2.1.getD (lastF a - 1).toNat ((0 : Int), false)).1 = g := e6
      rw [this, e6]; exact wrap_i64 (by omega) (by omega)
    rw [hw]
    have hset : (a.2.1.set (lastF a - 1).toNat (genAt a.2.1 (lastF a) + 1, true)).getD (lastF a - 1).toNat ((0 : Int), false) = (genAt a.2.1 (lastF a) + 1, true) := by
      rw [List.getD_eq_getElem?_getD, List.getElem?_set_self (by rw [e1]; omega)]; rfl
    rw [hset, entity_ref (i := lastF a) (g := genAt a.2.1 (lastF a) + 1) (by omega) (by omega)]
    rw [show (((a.2.2.length : Int) - 1)).toNat = a.2.2.length - 1 by omega]
theorem takeP_len {a : Al} (h : Rt a) : (takeP a).1.2.1.length ≤ 1100000 ∧ (takeP a).1.2.2.length ≤ 1100000 := by
  have h1 := h.n2
  have h2 := h.m2
  have h3 := h.flen
  unfold takeP
  split
  · simp [noAl]
  · split
    · split
      · simp only [List.length_append, List.length_cons, List.length_nil]; omega
      · simp [noAl]
    · simp only [List.length_set, List.length_take]; omega
theorem take_len {a : Al} (hs : a.2.1.length ≤ 2000000) : (alloc_Take_m a).1.2.1.length ≤ 1100000 ∧ (alloc_Take_m a).1.2.2.length ≤ 1100000 := by
  by_cases h : Rt a
  · rw [take_rt h]; exact takeP_len h
  · rw [take_not hs h]; simp [noAl]
end Go.SX

set_option linter.unusedVariables false
set_option linter.unusedSimpArgs false
namespace Go.SX
open Go
theorem new_len (n : Int) : (alloc_New_m n).1.2.1.length ≤ 2 ∧ (alloc_New_m n).1.2.2.length ≤ 0 := by
  unfold alloc_New_m
  simp only [LR.seq]
  repeat' split
  all_goals simp
def badAt (x : List Int) (k : Nat) : Bool := decide (x.getD k 0 ≤ 2) || (decide (0 < k) && decide (x.getD (k - 1) 0 = x.getD k 0))
abbrev GS := List Sl2 × Int × List Sl2 × List Int
def giveStep (i : Int) (s : GS) : GS := (s.1, s.2.1, s.2.2.1.set (i - 1).toNat (genAt s.2.2.1 i, false), if genAt s.2.2.1 i < 7 then s.2.2.2 ++ [i] else s.2.2.2)
theorem usable_f (g : Int) : alloc_usable_m (g, false) = decide (g < 7) := by unfold alloc_usable_m; simp
theorem give_step (x : List Int) (m k : Nat) (s : GS) : alloc_Give_l2 x (m + 1) k s = if badAt (sortI x) k = true then .ret (noAl, 2) else alloc_Give_l2 x m (k + 1) (giveStep ((sortI x).getD k 0) s) := by
  rw [alloc_Give_l2]
  simp only [LR.seq, usable_f]
  have e : (((k : Int) - 1)).toNat = k - 1 := by omega
  have hb : (if (sortI x).getD k 0 ≤ 2 then true else if (0 : Int) < (k : Int) then decide ((sortI x).getD (((k : Int) - 1)).toNat 0 = (sortI x).getD k 0) else false) = badAt (sortI x) k := by
    unfold badAt
    rw [e]
    by_cases h1 : (sortI x).getD k 0 ≤ 2
    · rw [if_pos h1, decide_eq_true h1]; rfl
    · rw [if_neg h1, decide_eq_false h1, Bool.false_or]
      by_cases h2 : 0 < k
      · rw [if_pos (by omega), decide_eq_true h2, Bool.true_and]
      · rw [if_neg (by omega), decide_eq_false h2, Bool.false_and]
  rw [hb]
  cases badAt (sortI x) k with
  | true => rfl
  | false =>
    rw [if_neg Bool.false_ne_true, if_neg Bool.false_ne_true]
    unfold giveStep genAt
    by_cases h : (s.2.2.1.getD ((sortI x).getD k 0 - 1).toNat ((0 : Int), false)).1 < 7
    · rw [if_pos (decide_eq_true h), if_pos h]
    · rw [if_neg (by rw [decide_eq_false h]; exact Bool.false_ne_true), if_neg h]
theorem giveStep_len (i : Int) (s : GS) : (giveStep i s).2.2.1.length = s.2.2.1.length ∧ (giveStep i s).2.2.2.length ≤ s.2.2.2.length + 1 := by
  unfold giveStep
  refine ⟨by simp, ?_⟩
  simp only
  split <;> simp
theorem give_l2_len (x : List Int) (N : Nat) : ∀ (m k : Nat) (s : GS), s.2.2.1.length ≤ N → s.2.2.2.length + m ≤ N →
    (∀ r, alloc_Give_l2 x m k s = .ret r → r.1.2.1.length ≤ N ∧ r.1.2.2.length ≤ N) ∧ (∀ t, alloc_Give_l2 x m k s = .go t → t.2.2.1.length ≤ N ∧ t.2.2.2.length ≤ N)
  | 0, k, s, h1, h2 => by
    rw [alloc_Give_l2]
    exact ⟨fun r h => (by cases h), fun t h => (by cases h; exact ⟨h1, by simpa using h2⟩)⟩
  | m + 1, k, s, h1, h2 => by
    rw [give_step]
    have hl := giveStep_len ((sortI x).getD k 0) s
    cases badAt (sortI x) k with
    | true => rw [if_pos rfl]; exact ⟨fun r h => (by cases h; simp [noAl]), fun t h => (by cases h)⟩
    | false =>
      rw [if_neg (by decide)]
      exact give_l2_len x N m (k + 1) _ (by omega) (by omega)
theorem give_l1_len : ∀ (l : List Int) (acc : List Int), (alloc_Give_l1 l acc).length = acc.length + l.length
  | [], acc => by simp [alloc_Give_l1]
  | y :: ys, acc => by rw [alloc_Give_l1]; simp only [LR.seq]; rw [give_l1_len ys]; simp; omega
theorem give_len {a : Al} {l : List Int} (hs : a.2.1.length ≤ 2000000) (hf : a.2.2.length ≤ 2000000) (hl : l.length ≤ 100) : (alloc_Give_m a l).1.2.1.length ≤ 1100000 ∧ (alloc_Give_m a l).1.2.2.length ≤ 1100000 := by
  unfold alloc_Give_m
  simp only [alloc_own_eq]
  split
  · simp
  · rename_i h
    have hr := (check_iff hs).1.1 (by omega)
    have h1 := hr.n2
    have h2 := hr.m2
    have h3 := hr.flen
    split
    · simp
    · simp only [LR.seq]
      have h4 := give_l1_len l []
      have h5 := give_l2_len (alloc_Give_l1 l []) 1100000 ((alloc_Give_l1 l []).length - 0) 0 (a.2.1, a.1, a.2.1, a.2.2) (by show a.2.1.length ≤ _; omega) (by show a.2.2.length + _ ≤ _; simp only [List.length_nil] at h4; omega)
      cases h6 : alloc_Give_l2 (alloc_Give_l1 l []) ((alloc_Give_l1 l []).length - 0) 0 (a.2.1, a.1, a.2.1, a.2.2) with
      | ret r => exact h5.1 r h6
      | go t => exact h5.2 t h6
theorem all_r1_len : ∀ (l : List (Int × Sl2)) (acc : List Int), (alloc_All_r1 l acc).length = acc.length + l.length
  | [], acc => by simp [alloc_All_r1]
  | y :: ys, acc => by rw [alloc_All_r1]; simp only [LR.seq]; rw [all_r1_len ys]; simp; omega
theorem all_len {a : Al} (hs : a.2.1.length ≤ 2000000) : (alloc_All_m a).length ≤ 2000000 := by
  unfold alloc_All_m
  split
  · simp
  · simp only [LR.seq]
    rw [all_r1_len]
    have := living_len a _ rfl
    simp only [List.length_nil]; omega
end Go.SX

set_option linter.unusedVariables false
set_option linter.unusedSimpArgs false
namespace Go.SX
open Go
theorem same_l2 (b : Al) : ∀ (l : List Sl2) (k : Nat), l.length + k = b.2.1.length → windroseref02_Same_l2 b l k () = if l = b.2.1.drop k then .go () else .ret false
  | [], k, h => by
    rw [windroseref02_Same_l2, if_pos (by symm; exact List.drop_eq_nil_iff.2 (by simp at h; omega))]
  | y :: ys, k, h => by
    simp only [List.length_cons] at h
    have hk : k < b.2.1.length := by omega
    rw [windroseref02_Same_l2, List.drop_eq_getElem_cons hk]
    have hg : b.2.1.getD k ((0 : Int), false) = b.2.1[k] := by rw [List.getD_eq_getElem?_getD, List.getElem?_eq_getElem hk]; rfl
    rw [hg, same_l2 b ys (k + 1) (by omega)]
    by_cases e : y = b.2.1[k]
    · rw [if_neg (fun h => h e)]
      by_cases e2 : ys = b.2.1.drop (k + 1)
      · rw [if_pos e2, if_pos (by rw [← e2, ← e])]
      · rw [if_neg e2, if_neg (fun h => e2 (List.cons.inj h).2)]
    · rw [if_pos e, if_neg (fun h => e (List.cons.inj h).1)]
theorem same_l3 (b : Al) : ∀ (l : List Int) (k : Nat), l.length + k = b.2.2.length → windroseref02_Same_l3 b l k () = if l = b.2.2.drop k then .go () else .ret false
  | [], k, h => by
    rw [windroseref02_Same_l3, if_pos (by symm; exact List.drop_eq_nil_iff.2 (by simp at h; omega))]
  | y :: ys, k, h => by
    simp only [List.length_cons] at h
    have hk : k < b.2.2.length := by omega
    rw [windroseref02_Same_l3, List.drop_eq_getElem_cons hk]
    have hg : b.2.2.getD k (0 : Int) = b.2.2[k] := by rw [List.getD_eq_getElem?_getD, List.getElem?_eq_getElem hk]; rfl
    rw [hg, same_l3 b ys (k + 1) (by omega)]
    by_cases e : y = b.2.2[k]
    · rw [if_neg (fun h => h e)]
      by_cases e2 : ys = b.2.2.drop (k + 1)
      · rw [if_pos e2, if_pos (by rw [← e2, ← e])]
      · rw [if_neg e2, if_neg (fun h => e2 (List.cons.inj h).2)]
    · rw [if_pos e, if_neg (fun h => e (List.cons.inj h).1)]
theorem same_ref (a b : Al) : windroseref02_Same_m a b = decide (a = b) := by
  obtain ⟨a1, a2, a3⟩ := a
  obtain ⟨b1, b2, b3⟩ := b
  unfold windroseref02_Same_m
  simp only [LR.seq]
  by_cases h1 : a1 = b1
  · have n1 : ¬ (a1 ≠ b1) := fun h => h h1
    rw [if_neg n1]
    by_cases h2 : a2.length = b2.length
    · have n2 : ¬ ((a2.length : Int) ≠ (b2.length : Int)) := by omega
      rw [if_neg n2]
      by_cases h3 : a3.length = b3.length
      · have n3 : ¬ (decide ((a3.length : Int) ≠ (b3.length : Int)) = true) := by simp [h3]
        rw [if_neg n3, same_l2 (b1, b2, b3) a2 0 (by simpa using h2), List.drop_zero]
        by_cases e2 : a2 = b2
        · rw [if_pos e2, LR.on_go, same_l3 (b1, b2, b3) a3 0 (by simpa using h3), List.drop_zero]
          by_cases e3 : a3 = b3
          · rw [if_pos e3, LR.on_go, decide_eq_true (by rw [h1, e2, e3])]
          · rw [if_neg e3, LR.on_ret, decide_eq_false (fun h => e3 (by injection h with _ h; injection h))]
        · rw [if_neg e2, LR.on_ret, decide_eq_false (fun h => e2 (by injection h with _ h; injection h))]
      · have n3 : decide ((a3.length : Int) ≠ (b3.length : Int)) = true := by simp; omega
        rw [if_pos n3, decide_eq_false (fun h => h3 (by injection h with _ h; injection h with _ h; rw [h]))]
    · have n2 : (a2.length : Int) ≠ (b2.length : Int) := by omega
      rw [if_pos n2, if_pos rfl, decide_eq_false (fun h => h2 (by injection h with _ h; injection h with h _; rw [h]))]
  · have n1 : a1 ≠ b1 := h1
    rw [if_pos n1, if_pos rfl, decide_eq_false (fun h => h1 (by injection h))]
theorem times_l1 (n : Int) : ∀ (l : List Int) (c : Int), 0 ≤ c → c + l.length ≤ 4000000 → windroseref02_times_l1 n l c = c + l.count n
  | [], c, _, _ => by simp [windroseref02_times_l1]
  | y :: ys, c, h1, h2 => by
    simp only [List.length_cons] at h2
    rw [windroseref02_times_l1]
    by_cases e : y = n
    · rw [if_pos e, wrap_i64 (by omega) (by omega), times_l1 n ys _ (by omega) (by omega), e, List.count_cons_self]; omega
    · rw [if_neg e, times_l1 n ys _ h1 (by omega), List.count_cons_of_ne e]
theorem times_eq {l : List Int} (h : l.length ≤ 2000000) (n : Int) : windroseref02_times_m l n = l.count n := by
  unfold windroseref02_times_m
  simp only [LR.seq]
  rw [times_l1 n l 0 (by omega) (by omega)]; omega
theorem perm_of_sub {l1 : List Int} (hd : l1.Nodup) : ∀ {l2 : List Int}, (∀ x ∈ l1, x ∈ l2) → l2.length ≤ l1.length → l1.Perm l2 := by
  induction l1 with
  | nil => intro l2 _ h; obtain rfl : l2 = [] := List.length_eq_zero_iff.1 (by simpa using h); exact List.Perm.refl _
  | cons a t ih =>
    intro l2 hs hl
    have ha := hs a (List.mem_cons_self ..)
    have hp := List.perm_cons_erase ha
    rw [List.nodup_cons] at hd
    refine List.Perm.trans (List.Perm.cons a (ih hd.2 (fun x hx => ?_) ?_)) hp.symm
    · exact (List.mem_erase_of_ne (fun e => hd.1 (by rw [← e]; exact hx))).2 (hs x (List.mem_cons_of_mem _ hx))
    · have := hp.length_eq
      simp only [List.length_cons] at this hl
      omega
theorem useL_up : ∀ (l : List Sl2) (k : Nat), (useL l k).Pairwise (· < ·)
  | [], k => List.Pairwise.nil
  | y :: ys, k => by
    rw [useL]
    split
    · refine List.Pairwise.cons (fun x hx => ?_) (useL_up ys (k + 1))
      obtain ⟨i, s, _, _, h⟩ := (useL_mem ys (k + 1) x).1 hx
      omega
    · exact useL_up ys (k + 1)
theorem useL_nodup (l : List Sl2) (k : Nat) : (useL l k).Nodup := (useL_up l k).imp (fun h => by intro e; omega)
theorem free_iff {slots : List Sl2} {free : List Int} : sortI free = useL slots 0 ↔ (∀ (i : Nat) (s : Sl2), slots[i]? = some s → free.count ((i : Int) + 1) = if useB s then 1 else 0) ∧ free.length = (useL slots 0).length := by
  constructor
  · intro h
    have hp : free.Perm (useL slots 0) := by rw [← h]; exact (sortI_perm free).symm
    refine ⟨fun i s hi => ?_, hp.length_eq⟩
    rw [hp.count_eq, (useL_nodup slots 0).count]
    by_cases hu : useB s = true
    · rw [if_pos ((useL_mem slots 0 _).2 ⟨i, s, hi, hu, by simp⟩), if_pos hu]
    · rw [if_neg (fun hm => ?_), if_neg hu]
      obtain ⟨j, t, h1, h2, h3⟩ := (useL_mem slots 0 _).1 hm
      have : i = j := by omega
      subst this
      rw [hi] at h1; injection h1 with h1; subst h1; exact hu h2
  · rintro ⟨h1, h2⟩
    have hp : (useL slots 0).Perm free := perm_of_sub (useL_nodup slots 0) (fun x hx => by
      obtain ⟨i, s, h3, h4, h5⟩ := (useL_mem slots 0 x).1 hx
      have := h1 i s h3
      rw [if_pos h4] at this
      rw [h5, Nat.zero_add]
      exact List.count_pos_iff.1 (by omega)) (by omega)
    exact List.Perm.eq_of_pairwise (fun a b _ _ h3 h4 => by omega) (sortI_sorted free) ((useL_up slots 0).imp (fun h => by omega)) ((sortI_perm free).trans hp.symm)
def slotOk (i : Nat) (s : Sl2) : Prop := 0 ≤ s.1 ∧ s.1 ≤ 7 ∧ (i < 2 → s = (0, true))
theorem right_l2 (a : Al) (hf : a.2.2.length ≤ 2000000) : ∀ (l : List Sl2) (k : Nat) (n : Int), 0 ≤ n → n + l.length ≤ 4000000 →
    (windroseref02_Right_l2 a l k n = .go (n + (useL l k).length) ∧ ∀ (i : Nat) (s : Sl2), l[i]? = some s → slotOk (k + i) s ∧ a.2.2.count (((k + i : Nat) : Int) + 1) = if useB s then 1 else 0) ∨
    (windroseref02_Right_l2 a l k n = .ret false ∧ ∃ (i : Nat) (s : Sl2), l[i]? = some s ∧ ¬ (slotOk (k + i) s ∧ a.2.2.count (((k + i : Nat) : Int) + 1) = if useB s then 1 else 0))
  | [], k, n, _, _ => .inl ⟨by simp [windroseref02_Right_l2, useL], fun i s h => by simp at h⟩
  | y :: ys, k, n, h1, h2 => by
    simp only [List.length_cons] at h2
    rw [windroseref02_Right_l2]
    simp only [LR.seq]
    rw [times_eq hf]
    have bad : ¬ (slotOk k y ∧ a.2.2.count ((k : Int) + 1) = if useB y then 1 else 0) → ∃ (i : Nat) (s : Sl2), (y :: ys)[i]? = some s ∧ ¬ (slotOk (k + i) s ∧ a.2.2.count (((k + i : Nat) : Int) + 1) = if useB s then 1 else 0) := fun h => ⟨0, y, rfl, by simpa using h⟩
    by_cases c1 : y.1 < 0
    · rw [if_pos c1]; exact .inr ⟨rfl, bad (fun h => by have := h.1.1; omega)⟩
    by_cases c2 : 7 < y.1
    · rw [if_neg c1, if_pos c2]; exact .inr ⟨rfl, bad (fun h => by have := h.1.2.1; omega)⟩
    have hc3 : (if (k : Int) < 2 then decide (y ≠ (0, true)) else false) = true ↔ ¬ (k < 2 → y = (0, true)) := by
      by_cases hk : k < 2
      · rw [if_pos (by omega)]; simp [hk]
      · rw [if_neg (by omega)]; simp [hk]
    rw [if_neg c1, if_neg c2]
    by_cases c3 : (k < 2 → y = (0, true))
    rotate_left
    · rw [if_pos (hc3.2 c3)]; exact .inr ⟨rfl, bad (fun h => c3 h.1.2.2)⟩
    rw [if_neg (fun h => hc3.1 h c3)]
    have hu : (if (!y.2) = true then decide (y.1 < 7) else false) = useB y := by unfold useB; cases y.2 <;> simp
    rw [hu]
    have hok : slotOk k y := ⟨by omega, by omega, c3⟩
    have fin : ∀ n' : Int, 0 ≤ n' → n' + ys.length ≤ 4000000 → n' + (useL ys (k + 1)).length = n + (useL (y :: ys) k).length → a.2.2.count ((k : Int) + 1) = (if useB y then 1 else 0) →
        (windroseref02_Right_l2 a ys (k + 1) n' = .go (n + (useL (y :: ys) k).length) ∧ ∀ (i : Nat) (s : Sl2), (y :: ys)[i]? = some s → slotOk (k + i) s ∧ a.2.2.count (((k + i : Nat) : Int) + 1) = if useB s then 1 else 0) ∨
        (windroseref02_Right_l2 a ys (k + 1) n' = .ret false ∧ ∃ (i : Nat) (s : Sl2), (y :: ys)[i]? = some s ∧ ¬ (slotOk (k + i) s ∧ a.2.2.count (((k + i : Nat) : Int) + 1) = if useB s then 1 else 0)) := by
      intro n' g1 g2 g3 g4
      rcases right_l2 a hf ys (k + 1) n' g1 g2 with ⟨h3, h4⟩ | ⟨h3, i, s, h4, h5⟩
      · refine .inl ⟨by rw [h3, g3], fun i s hi => ?_⟩
        cases i with
        | zero => simp at hi; subst hi; exact ⟨hok, by simpa using g4⟩
        | succ i => have := h4 i s (by simpa using hi); rw [show k + (i + 1) = k + 1 + i by omega]; exact this
      · exact .inr ⟨h3, i + 1, s, by simpa using h4, by rw [show k + (i + 1) = k + 1 + i by omega]; exact h5⟩
    cases hb : useB y with
    | true =>
      simp only [if_true]
      rw [wrap_i64 (x := n + 1) (by omega) (by omega)]
      by_cases c4 : (a.2.2.count ((k : Int) + 1) : Int) = 1
      · rw [if_neg (fun h => h c4)]
        exact fin (n + 1) (by omega) (by omega) (by rw [useL, if_pos hb]; simp only [List.length_cons]; omega) (by rw [hb]; simp; omega)
      · rw [if_pos c4]; exact .inr ⟨rfl, bad (fun h => c4 (by have := h.2; rw [hb] at this; simp at this; omega))⟩
    | false =>
      simp only [Bool.false_eq_true, if_false]
      by_cases c4 : (a.2.2.count ((k : Int) + 1) : Int) = 0
      · rw [if_neg (fun h => h c4)]
        exact fin n (by omega) (by omega) (by rw [useL, if_neg (by rw [hb]; decide)]) (by rw [hb]; simp; omega)
      · rw [if_pos c4]; exact .inr ⟨rfl, bad (fun h => c4 (by have := h.2; rw [hb] at this; simp at this; omega))⟩
theorem right_ref {a : Al} (hs : a.2.1.length ≤ 2000000) (hf : a.2.2.length ≤ 2000000) : windroseref02_Right_m a = true ↔ Rt a := by
  unfold windroseref02_Right_m
  simp only [LR.seq]
  rw [alive_ref hs]
  by_cases c1 : a.1 < 1
  · rw [if_pos c1, if_pos rfl]; exact ⟨fun h => (by cases h), fun h => (by have := h.m1; omega)⟩
  by_cases c2 : 1048576 < a.1
  · rw [if_neg c1, if_pos c2, if_pos rfl]; exact ⟨fun h => (by cases h), fun h => (by have := h.m2; omega)⟩
  by_cases c3 : (a.2.1.length : Int) < 2
  · rw [if_neg c1, if_neg c2, if_pos c3, if_pos rfl]; exact ⟨fun h => (by cases h), fun h => (by have := h.n1; omega)⟩
  rw [wrap_i64 (x := a.1 + 2) (by omega) (by omega)]
  by_cases c4 : a.1 + 2 < (a.2.1.length : Int)
  · rw [if_neg c1, if_neg c2, if_neg c3, if_pos c4, if_pos rfl]; exact ⟨fun h => (by cases h), fun h => (by have := h.n2; omega)⟩
  rw [if_neg c1, if_neg c2, if_neg c3, if_neg c4]
  by_cases c5 : a.1 < (aliveN a.2.1 : Int) - 2
  · rw [if_pos (decide_eq_true c5)]; exact ⟨fun h => (by cases h), fun h => (by have := h.al; omega)⟩
  rw [if_neg (by rw [decide_eq_false c5]; exact Bool.false_ne_true)]
  rcases right_l2 a hf a.2.1 0 0 (by omega) (by omega) with ⟨h3, h4⟩ | ⟨h3, i, s, h4, h5⟩
  · rw [h3, LR.on_go, decide_eq_true_eq]
    constructor
    · intro h
      exact ⟨by omega, by omega, by omega, by omega, by omega, fun i s hi => by have := (h4 i s hi).1; rw [Nat.zero_add] at this; exact this, free_iff.2 ⟨fun i s hi => by have := (h4 i s hi).2; rw [Nat.zero_add] at this; exact this, by omega⟩⟩
    · intro h
      have := (free_iff.1 h.f).2
      omega
  · rw [h3, LR.on_ret]
    refine ⟨fun h => (by cases h), fun h => absurd ?_ h5⟩
    rw [Nat.zero_add]
    exact ⟨h.g i s h4, (free_iff.1 h.f).1 i s h4⟩
end Go.SX
namespace Go.SX
theorem own40 {a : Al} (h1 : a.2.1.length ≤ 40) (h2 : a.2.2.length ≤ 40) : windroselaw02_own_m a = a := by
  obtain ⟨m, s, f⟩ := a
  unfold windroselaw02_own_m
  rw [show min (s, f).1.length 40 = s.length by simp only at h1 ⊢; omega, show min (s, f).2.length 40 = f.length by simp only at h2 ⊢; omega]
  simp
theorem own_len (a : Al) : (windroselaw02_own_m a).2.1.length ≤ 40 ∧ (windroselaw02_own_m a).2.2.length ≤ 40 := by
  unfold windroselaw02_own_m
  simp only [List.length_take]; omega
end Go.SX

set_option linter.unusedVariables false
set_option linter.unusedSimpArgs false
namespace Go.SX
open Go
theorem useL_count : ∀ (l : List Sl2) (k : Nat), (useL l k).length = l.countP useB
  | [], k => rfl
  | y :: ys, k => by
    rw [useL, List.countP_cons]
    cases h : useB y <;> simp [useL_count ys (k + 1)]
theorem useL_snoc : ∀ (l : List Sl2) (k : Nat) (s : Sl2), useB s = false → useL (l ++ [s]) k = useL l k
  | [], k, s, h => by simp [useL, h]
  | y :: ys, k, s, h => by
    simp only [List.cons_append, useL, useL_snoc ys (k + 1) s h]
theorem take_last {a : Al} (h0 : a.2.2.length ≠ 0) : a.2.2 = a.2.2.take (a.2.2.length - 1) ++ [lastF a] := by
  have h2 : a.2.2[a.2.2.length - 1]? = some (lastF a) := getD_get (by omega)
  have := take_snoc a.2.2 (a.2.2.length - 1) (lastF a) h2
  rw [show a.2.2.length - 1 + 1 = a.2.2.length by omega, List.take_length] at this
  exact this
theorem take_keeps {a : Al} (h : Rt a) (h0 : (takeP a).2.2 = 0) : Rt (takeP a).1 := by
  have hm1 := h.m1
  have hm2 := h.m2
  have hn1 := h.n1
  have hn2 := h.n2
  have hal := h.al
  unfold takeP at h0 ⊢
  by_cases c1 : (aliveN a.2.1 : Int) - 2 = a.1
  · rw [if_pos c1] at h0; cases h0
  rw [if_neg c1] at h0 ⊢
  by_cases c2 : a.2.2.length = 0
  · rw [if_pos c2] at h0 ⊢
    by_cases c3 : (a.2.1.length : Int) < a.1 + 2
    · rw [if_pos c3]
      have hf : a.2.2 = [] := List.length_eq_zero_iff.1 c2
      have hff := h.f
      refine ⟨hm1, hm2, by simp; omega, by simp; omega, ?_, fun i s hi => ?_, ?_⟩
      · show ((aliveN (a.2.1 ++ [(0, true)]) : Nat) : Int) - 2 ≤ a.1
        unfold aliveN at *
        rw [List.countP_append]
        simp only [List.countP_cons, List.countP_nil, if_true]
        omega
      · rcases Nat.lt_or_ge i a.2.1.length with g | g
        · exact h.g i s (by rw [← hi]; exact (List.getElem?_append_left g).symm)
        · have h5 : (a.2.1 ++ [((0 : Int), true)])[i]? = some s := hi
          rw [List.getElem?_append_right g] at h5
          have h6 : i - a.2.1.length = 0 := by have := (List.getElem?_eq_some_iff.1 h5).1; simpa using this
          rw [h6] at h5
          simp at h5
          subst h5
          exact ⟨by simp, by simp, fun _ => rfl⟩
      · show sortI [] = useL (a.2.1 ++ [(0, true)]) 0
        rw [useL_snoc _ _ _ rfl, ← hff, hf]
    · rw [if_neg c3] at h0; cases h0
  · rw [if_neg c2]
    obtain ⟨j, g, e1, e2, e3, e4, e5, e6⟩ := h.last c2
    have hj := (List.getElem?_eq_some_iff.1 e2).1
    have hjg : a.2.1[j] = (g, false) := (List.getElem?_eq_some_iff.1 e2).2
    have hjn : (lastF a - 1).toNat = j := by omega
    rw [e6, hjn]
    have hset : ∀ i s, (a.2.1.set j (g + 1, true))[i]? = some s → (i = j ∧ s = (g + 1, true)) ∨ (i ≠ j ∧ a.2.1[i]? = some s) := by
      intro i s hi
      by_cases e : i = j
      · subst e; rw [List.getElem?_set_self hj] at hi; injection hi with hi; exact .inl ⟨rfl, hi.symm⟩
      · rw [List.getElem?_set_ne (fun k => e k.symm)] at hi; exact .inr ⟨e, hi⟩
    refine ⟨hm1, hm2, by simpa using hn1, by simpa using hn2, ?_, fun i s hi => ?_, ?_⟩
    · show ((aliveN (a.2.1.set j (g + 1, true)) : Nat) : Int) - 2 ≤ a.1
      unfold aliveN at *
      rw [List.countP_set hj, hjg]
      simp; omega
    · rcases hset i s hi with ⟨rfl, rfl⟩ | ⟨_, h5⟩
      · exact ⟨by simp; omega, by simp; omega, fun k => by omega⟩
      · exact h.g i s h5
    · obtain ⟨f1, f2⟩ := free_iff.1 h.f
      have hl := take_last c2
      have hc : ∀ x : Int, a.2.2.count x = (a.2.2.take (a.2.2.length - 1)).count x + if lastF a = x then 1 else 0 := by
        intro x
        rw [congrArg (List.count x) hl, List.count_append, List.count_singleton]
        by_cases e : lastF a = x
        · rw [if_pos e, e]; simp
        · rw [if_neg e, if_neg (by simpa using e)]
      refine free_iff.2 ⟨fun i s hi => ?_, ?_⟩
      · show (a.2.2.take (a.2.2.length - 1)).count ((i : Int) + 1) = _
        have h7 := hc ((i : Int) + 1)
        rcases hset i s hi with ⟨rfl, rfl⟩ | ⟨hne, h5⟩
        · have h8 := f1 i _ e2
          rw [show useB (g, false) = true by simp [useB]; omega] at h8
          rw [show useB (g + 1, true) = false by simp [useB]]
          rw [if_pos e1] at h7
          simp at h8 ⊢
          have : ∀ x ∈ a.2.2.take (a.2.2.length - 1), ¬ x = (i : Int) + 1 := by
            intro x hx he
            subst he
            have := List.count_pos_iff.2 hx
            omega
          first | exact fun hx => this _ hx rfl | exact List.count_eq_zero.2 (fun hx => this _ hx rfl) | omega
        · rw [if_neg (by omega)] at h7
          have := f1 i s h5
          omega
      · show (a.2.2.take (a.2.2.length - 1)).length = (useL (a.2.1.set j (g + 1, true)) 0).length
        rw [useL_count] at f2 ⊢
        have hpos : 0 < a.2.1.countP useB := List.countP_pos_iff.2 ⟨(g, false), List.mem_of_getElem? e2, by simp [useB]; omega⟩
        rw [List.countP_set hj, hjg, show useB (g, false) = true by simp [useB]; omega, show useB (g + 1, true) = false by simp [useB], List.length_take]
        simp; omega
theorem own_take_rt {a : Al} (h : Rt a) (h1 : a.2.1.length ≤ 40) (h2 : a.2.2.length ≤ 40) (h0 : (takeP a).2.2 = 0) : Rt (windroselaw02_own_m (takeP a).1) := by
  have hk := take_keeps h h0
  by_cases hl : (takeP a).1.2.1.length ≤ 40
  · rw [own40 hl (by have := hk.flen; omega)]; exact hk
  · have hc : windroselaw02_own_m (takeP a).1 = a := by
      unfold takeP at hl h0 ⊢
      by_cases c1 : (aliveN a.2.1 : Int) - 2 = a.1
      · rw [if_pos c1] at h0; cases h0
      rw [if_neg c1] at h0 hl ⊢
      by_cases c2 : a.2.2.length = 0
      · rw [if_pos c2] at h0 hl ⊢
        by_cases c3 : (a.2.1.length : Int) < a.1 + 2
        · rw [if_pos c3] at hl ⊢
          have hf : a.2.2 = [] := List.length_eq_zero_iff.1 c2
          have hl40 : a.2.1.length = 40 := by simp at hl; omega
          unfold windroselaw02_own_m
          simp only [List.length_append, List.length_cons, List.length_nil]
          rw [hl40, show min (40 + (0 + 1)) 40 = 40 by omega, List.take_append_of_le_length (by omega), List.take_of_length_le (by omega)]
          obtain ⟨m, s, f⟩ := a
          simp at hf ⊢
          exact hf
        · rw [if_neg c3] at h0; cases h0
      · rw [if_neg c2] at hl; simp at hl; omega
    rw [hc]; exact h
theorem turn_rt {a w : Al} {n14 n15 : Int} (h1 : a.2.1.length ≤ 40) (h2 : a.2.2.length ≤ 40) (hT : (if windroseref02_Right_m a = true then LR.seq (windroselaw02_own_m a) (fun r44 => LR.seq (windroseref02_Take_m r44) (fun r45 => (r45.2.1, r45.2.2, r45.1.1, r45.1.2.1, r45.1.2.2))) else (0, 120, 0, [], [])) = (n14, n15, w.1, w.2.1, w.2.2)) (hr : windroseref02_Right_m a = true) (h0 : n15 = 0) : Rt (windroselaw02_own_m w) := by
  have hra := (right_ref (by omega) (by omega)).1 hr
  rw [if_pos hr] at hT
  simp only [LR.seq] at hT
  rw [own40 h1 h2, take_ref hra] at hT
  injection hT with _ hT
  injection hT with h3 hT
  have hw : w = (takeP a).1 := by
    obtain ⟨w1, w2, w3⟩ := w
    injection hT with g1 hT
    injection hT with g2 g3
    simp only at g1 g2 g3
    rw [← g1, ← g2, ← g3]
  rw [hw]
  exact own_take_rt hra h1 h2 (by omega)
end Go.SX

set_option linter.unusedVariables false
set_option linter.unusedSimpArgs false
namespace Go.SX
open Go
theorem halves_ent {i g : Int} (hi : 1 ≤ i ∧ i ≤ 1048578) (hg : 0 ≤ g ∧ g ≤ 7) : ident_halves_m (entI i g) = (g, i) := by
  have hU : U (entI i g) := by unfold entI; exact ⟨by omega, by omega⟩
  unfold ident_halves_m
  rw [halfA_eq hU, halfB_eq hU]
  unfold hA hB entI
  refine Prod.ext ?_ ?_
  · show (i + g * 4294967296) / 4294967296 % 1073741824 = g; omega
  · show (i + g * 4294967296) % 1073741824 = i; omega
theorem kind_ent {i g : Int} (hi : 1 ≤ i ∧ i ≤ 1048578) (hg : 0 ≤ g ∧ g ≤ 7) : kindG (entI i g) = 1 := by
  refine kindG_1.2 ?_
  show identKind1_m (entI i g) (ident_halves_m (entI i g)).1 (ident_halves_m (entI i g)).2 = true
  rw [halves_ent hi hg]
  unfold identKind1_m
  rw [packed_eq hg ⟨by omega, hi.2⟩, if_pos rfl, if_pos (within1.2 hi)]
  exact within1.2 hg
theorem parts_ent {i g : Int} (hi : 1 ≤ i ∧ i ≤ 1048578) (hg : 0 ≤ g ∧ g ≤ 7) : ident_Parts_m (entI i g) = (i, g) := by
  rw [(kind1_parts (kind_ent hi hg)).1, halves_ent hi hg]
/-- The slot at place i is of someone who is alive, and is x. -/
def AtI (a : Al) (i : Nat) (x : Int) : Prop := ∃ g, a.2.1[i]? = some (g, true) ∧ x = entI ((i : Int) + 1) g
theorem Rt.rng {a : Al} (h : Rt a) {i : Nat} {s : Sl2} (hi : a.2.1[i]? = some s) : (1 ≤ (i : Int) + 1 ∧ (i : Int) + 1 ≤ 1048578) ∧ (0 ≤ s.1 ∧ s.1 ≤ 7) := by
  have h1 := (List.getElem?_eq_some_iff.1 hi).1
  have h2 := h.n2
  have h3 := h.m2
  have h4 := h.g i s hi
  exact ⟨by omega, h4.1, h4.2.1⟩
theorem AtI.inj {a : Al} (h : Rt a) {i j : Nat} {x : Int} (h1 : AtI a i x) (h2 : AtI a j x) : i = j := by
  obtain ⟨g, h3, h4⟩ := h1
  obtain ⟨g', h5, h6⟩ := h2
  have := h.rng h3
  have := h.rng h5
  simp only at *
  unfold entI at *
  omega
theorem AtI.parts {a : Al} (h : Rt a) {i : Nat} {x : Int} (h1 : AtI a i x) : (ident_Parts_m x).1 = (i : Int) + 1 := by
  obtain ⟨g, h3, rfl⟩ := h1
  have := h.rng h3
  rw [parts_ent this.1 this.2]
theorem alive_iff {a : Al} (h : Rt a) (x : Int) : alloc_alive_m a x = true ↔ ∃ i, AtI a i x := by
  have hn2 := h.n2
  have hm2 := h.m2
  constructor
  · intro k
    have hr := alive_rng k
    unfold alloc_alive_m at k
    split at k
    · cases k
    · rename_i h1
      have hk : kindG x = 1 := by omega
      obtain ⟨e1, e2, e3, e4⟩ := kind1_parts hk
      simp only [LR.seq] at k
      rw [e1] at k hr
      simp only at k hr
      rw [if_pos hr.2, decide_eq_true_eq] at k
      refine ⟨((ident_halves_m x).2 - 1).toNat, (ident_halves_m x).1, ?_, ?_⟩
      · rw [getD_get (z := ((0 : Int), false)) (by omega), k]
      · rw [show ((((ident_halves_m x).2 - 1).toNat : Nat) : Int) + 1 = (ident_halves_m x).2 by omega, ← packed_eq e4 ⟨by omega, e3.2⟩]
        exact e2
  · rintro ⟨i, g, h1, rfl⟩
    obtain ⟨r1, r2⟩ := h.rng h1
    have hl := (List.getElem?_eq_some_iff.1 h1).1
    unfold alloc_alive_m
    rw [if_neg (by rw [kind_ent r1 r2]; decide), parts_ent r1 r2]
    simp only [LR.seq]
    rw [if_pos (by omega), show ((i : Int) + 1 - 1).toNat = i by omega, List.getD_eq_getElem?_getD, h1]
    simp
theorem is_l1 {a : Al} (h : Rt a) (x : Int) : ∀ (l : List Sl2) (k : Nat), l = a.2.1.drop k → (windroseref02_Is_l1 x l k () = .ret true ∧ ∃ i, AtI a i x) ∨ (windroseref02_Is_l1 x l k () = .go () ∧ ∀ i, k ≤ i → ¬ AtI a i x)
  | [], k, e => .inr ⟨rfl, fun i hi ⟨g, h1, _⟩ => by
    have h2 := (List.getElem?_eq_some_iff.1 h1).1
    have h3 : a.2.1.length ≤ k := List.drop_eq_nil_iff.1 e.symm
    omega⟩
  | y :: ys, k, e => by
    have hk : k < a.2.1.length := by
      rcases Nat.lt_or_ge k a.2.1.length with h | h
      · exact h
      · rw [List.drop_eq_nil_iff.2 h] at e; cases e
    rw [List.drop_eq_getElem_cons hk] at e
    injection e with e1 e2
    have hy : a.2.1[k]? = some y := by rw [List.getElem?_eq_getElem hk, e1]
    obtain ⟨r1, r2⟩ := h.rng hy
    rw [windroseref02_Is_l1]
    simp only [LR.seq]
    rw [entity_ref ⟨by omega, r1.2⟩ r2]
    by_cases c : y.2 = true
    · rw [if_pos c]
      by_cases c2 : entI ((k : Int) + 1) y.1 = x
      · rw [decide_eq_true c2, if_pos rfl]
        exact .inl ⟨rfl, k, y.1, by rw [hy, ← c], c2.symm⟩
      · rw [decide_eq_false c2, if_neg Bool.false_ne_true]
        rcases is_l1 h x ys (k + 1) e2 with ⟨h1, h2⟩ | ⟨h1, h2⟩
        · exact .inl ⟨h1, h2⟩
        · refine .inr ⟨h1, fun i hi hat => ?_⟩
          rcases Nat.lt_or_ge k i with h3 | h3
          · exact h2 i h3 hat
          · obtain rfl : i = k := by omega
            obtain ⟨g, h4, h5⟩ := hat
            rw [hy] at h4; injection h4 with h4
            rw [h4] at c2; exact c2 h5.symm
    · rw [if_neg c, if_neg Bool.false_ne_true]
      rcases is_l1 h x ys (k + 1) e2 with ⟨h1, h2⟩ | ⟨h1, h2⟩
      · exact .inl ⟨h1, h2⟩
      · refine .inr ⟨h1, fun i hi hat => ?_⟩
        rcases Nat.lt_or_ge k i with h3 | h3
        · exact h2 i h3 hat
        · obtain rfl : i = k := by omega
          obtain ⟨g, h4, h5⟩ := hat
          rw [hy] at h4; injection h4 with h4
          rw [h4] at c; exact c rfl
theorem is_iff {a : Al} (h : Rt a) (x : Int) : windroseref02_Is_m a x = true ↔ ∃ i, AtI a i x := by
  unfold windroseref02_Is_m
  rcases is_l1 h x a.2.1 0 rfl with ⟨h1, h2⟩ | ⟨h1, h2⟩
  · rw [h1, LR.on_ret]; exact ⟨fun _ => h2, fun _ => rfl⟩
  · rw [h1, LR.on_go]; exact ⟨fun h => (by cases h), fun ⟨i, hi⟩ => absurd hi (h2 i (by omega))⟩
theorem is_alive {a : Al} (h : Rt a) (x : Int) : windroseref02_Is_m a x = alloc_alive_m a x := by
  rw [Bool.eq_iff_iff, is_iff h, alive_iff h]
theorem has_l1 (x : Int) : ∀ l : List Int, windroseref02_has_l1 x l () = if x ∈ l then .ret true else .go ()
  | [] => rfl
  | y :: ys => by
    rw [windroseref02_has_l1, has_l1 x ys]
    by_cases e : y = x
    · rw [if_pos e, if_pos (by rw [e]; exact List.mem_cons_self ..)]
    · rw [if_neg e]
      by_cases m : x ∈ ys
      · rw [if_pos m, if_pos (List.mem_cons_of_mem _ m)]
      · rw [if_neg m, if_neg (by intro h; rcases List.mem_cons.1 h with h | h; exact e h.symm; exact m h)]
theorem has_eq (l : List Int) (x : Int) : windroseref02_has_m l x = decide (x ∈ l) := by
  unfold windroseref02_has_m
  rw [has_l1]
  by_cases m : x ∈ l
  · rw [if_pos m, LR.on_ret, decide_eq_true m]
  · rw [if_neg m, LR.on_go, decide_eq_false m]
/-! Give -/
def gfold : List Int → GS → GS
  | [], s => s
  | i :: r, s => gfold r (giveStep i s)
theorem give_l2_go (x : List Int) : ∀ (m k : Nat) (s : GS), m + k = (sortI x).length → (∀ j, k ≤ j → j < (sortI x).length → badAt (sortI x) j = false) → alloc_Give_l2 x m k s = .go (gfold ((sortI x).drop k) s)
  | 0, k, s, h, _ => by
    rw [alloc_Give_l2, List.drop_eq_nil_iff.2 (by omega)]; rfl
  | m + 1, k, s, h, hb => by
    rw [give_step, hb k (Nat.le_refl _) (by omega), if_neg Bool.false_ne_true, give_l2_go x m (k + 1) _ (by omega) (fun j h1 h2 => hb j (by omega) h2), List.drop_eq_getElem_cons (i := k) (by omega)]
    rw [gfold, List.getD_eq_getElem?_getD, List.getElem?_eq_getElem (by omega)]
    rfl
theorem give_l2_ret (x : List Int) : ∀ (m k : Nat) (s : GS), m + k = (sortI x).length → (∃ j, k ≤ j ∧ j < (sortI x).length ∧ badAt (sortI x) j = true) → alloc_Give_l2 x m k s = .ret (noAl, 2)
  | 0, k, s, h, ⟨j, h1, h2, _⟩ => by omega
  | m + 1, k, s, h, ⟨j, h1, h2, h3⟩ => by
    rw [give_step]
    cases hb : badAt (sortI x) k with
    | true => rw [if_pos rfl]
    | false =>
      rw [if_neg Bool.false_ne_true]
      refine give_l2_ret x m (k + 1) _ (by omega) ⟨j, ?_, h2, h3⟩
      rcases Nat.lt_or_ge k j with h4 | h4
      · exact h4
      · obtain rfl : j = k := by omega
        rw [hb] at h3; cases h3
theorem give_l1_eq : ∀ (l acc : List Int), alloc_Give_l1 l acc = acc ++ l.map (fun x => (ident_Parts_m x).1)
  | [], acc => by simp [alloc_Give_l1]
  | y :: ys, acc => by rw [alloc_Give_l1]; simp only [LR.seq]; rw [give_l1_eq ys]; simp
/-- No index is bad: none of the first two, none twice. -/
theorem bad_iff (X : List Int) : (∀ j, 0 ≤ j → j < (sortI X).length → badAt (sortI X) j = false) ↔ (∀ x ∈ X, 2 < x) ∧ X.Nodup := by
  have hp := sortI_perm X
  have hs := sortI_sorted X
  constructor
  · intro h
    have hg : ∀ j (hj : j < (sortI X).length), 2 < (sortI X)[j] ∧ (0 < j → (sortI X).getD (j - 1) 0 ≠ (sortI X)[j]) := by
      intro j hj
      have := h j (by omega) hj
      unfold badAt at this
      rw [Bool.or_eq_false_iff, decide_eq_false_iff_not] at this
      have e : (sortI X).getD j 0 = (sortI X)[j] := by rw [List.getD_eq_getElem?_getD, List.getElem?_eq_getElem hj]; rfl
      rw [e] at this
      refine ⟨by omega, fun h0 he => ?_⟩
      have h2 := this.2
      rw [decide_eq_true h0, Bool.true_and, decide_eq_false_iff_not] at h2
      exact h2 he
    refine ⟨fun x hx => ?_, hp.nodup_iff.1 ?_⟩
    · obtain ⟨j, hj, rfl⟩ := List.getElem_of_mem (hp.mem_iff.2 hx)
      exact (hg j hj).1
    · rw [List.nodup_iff_pairwise_ne, List.pairwise_iff_getElem]
      intro i j hi hj hij he
      have h1 := (hg j hj).2 (by omega)
      apply h1
      have e : (sortI X).getD (j - 1) 0 = (sortI X)[j - 1]'(by omega) := by rw [List.getD_eq_getElem?_getD, List.getElem?_eq_getElem (by omega)]; rfl
      rw [e]
      have h2 : (sortI X)[j - 1]'(by omega) ≤ (sortI X)[j] := (List.pairwise_iff_getElem.1 hs) (j - 1) j (by omega) hj (by omega)
      rcases Nat.lt_or_ge i (j - 1) with h3 | h3
      · have h4 : (sortI X)[i] ≤ (sortI X)[j - 1]'(by omega) := (List.pairwise_iff_getElem.1 hs) i (j - 1) hi (by omega) h3
        omega
      · have h4 : i = j - 1 := by omega
        subst h4; exact he
  · rintro ⟨h1, h2⟩ j _ hj
    have h3 : (sortI X).Nodup := hp.nodup_iff.2 h2
    unfold badAt
    have e : (sortI X).getD j 0 = (sortI X)[j] := by rw [List.getD_eq_getElem?_getD, List.getElem?_eq_getElem hj]; rfl
    rw [e, Bool.or_eq_false_iff, decide_eq_false_iff_not]
    refine ⟨by have := h1 _ (hp.mem_iff.1 (List.getElem_mem hj)); omega, ?_⟩
    by_cases h0 : 0 < j
    · rw [decide_eq_true h0, Bool.true_and, decide_eq_false_iff_not]
      have e2 : (sortI X).getD (j - 1) 0 = (sortI X)[j - 1]'(by omega) := by rw [List.getD_eq_getElem?_getD, List.getElem?_eq_getElem (by omega)]; rfl
      rw [e2]
      rw [List.nodup_iff_pairwise_ne, List.pairwise_iff_getElem] at h3
      exact h3 (j - 1) j (by omega) hj (by omega)
    · rw [decide_eq_false h0, Bool.false_and]
end Go.SX

set_option linter.unusedVariables false
set_option linter.unusedSimpArgs false
namespace Go.SX
open Go
/-- who is given, by place -/
def gvP (l : List Int) (k : Nat) (y : Sl2) : Bool := decide (entI ((k : Int) + 1) y.1 ∈ l)
def gvS (l : List Int) : List Sl2 → Nat → List Sl2
  | [], _ => []
  | y :: ys, k => (if gvP l k y then (y.1, false) else y) :: gvS l ys (k + 1)
def gvF (l : List Int) : List Sl2 → Nat → List Int
  | [], _ => []
  | y :: ys, k => if gvP l k y && decide (y.1 < 7) then ((k : Int) + 1) :: gvF l ys (k + 1) else gvF l ys (k + 1)
def giveR (a : Al) (l : List Int) : Al := (a.1, gvS l a.2.1 0, a.2.2 ++ gvF l a.2.1 0)
theorem gvS_get (l : List Int) : ∀ (s : List Sl2) (k j : Nat), (gvS l s k)[j]? = (s[j]?).map (fun t => if gvP l (k + j) t then (t.1, false) else t)
  | [], k, j => by simp [gvS]
  | y :: ys, k, 0 => by simp [gvS]
  | y :: ys, k, j + 1 => by
    rw [gvS, List.getElem?_cons_succ, gvS_get l ys (k + 1) j, List.getElem?_cons_succ, show k + 1 + j = k + (j + 1) by omega]
theorem gvF_mem (l : List Int) : ∀ (s : List Sl2) (k : Nat) (x : Int), x ∈ gvF l s k ↔ ∃ (i : Nat) (y : Sl2), s[i]? = some y ∧ gvP l (k + i) y = true ∧ y.1 < 7 ∧ x = ((k + i : Nat) : Int) + 1
  | [], k, x => by simp [gvF]
  | y :: ys, k, x => by
    have ih := gvF_mem l ys (k + 1) x
    have e : x ∈ gvF l (y :: ys) k ↔ ((gvP l k y = true ∧ y.1 < 7) ∧ x = (k : Int) + 1) ∨ x ∈ gvF l ys (k + 1) := by
      rw [gvF]
      by_cases h : (gvP l k y && decide (y.1 < 7)) = true
      · rw [if_pos h]; rw [Bool.and_eq_true, decide_eq_true_eq] at h; simp [h]
      · rw [if_neg h]; rw [Bool.and_eq_true, decide_eq_true_eq] at h; simp [h]
    rw [e, ih]
    constructor
    · rintro (⟨⟨h1, h2⟩, h3⟩ | ⟨i, s, h1, h2, h3, h4⟩)
      · exact ⟨0, y, rfl, h1, h2, by simpa using h3⟩
      · exact ⟨i + 1, s, by simpa using h1, by rw [show k + (i + 1) = k + 1 + i by omega]; exact h2, h3, by rw [h4]; congr 2; omega⟩
    · rintro ⟨i, s, h1, h2, h3, h4⟩
      cases i with
      | zero => simp at h1; subst h1; exact .inl ⟨⟨h2, h3⟩, by simpa using h4⟩
      | succ i => exact .inr ⟨i, s, by simpa using h1, by rw [show k + 1 + i = k + (i + 1) by omega]; exact h2, h3, by rw [h4]; congr 2; omega⟩
theorem gvF_up (l : List Int) : ∀ (s : List Sl2) (k : Nat), (gvF l s k).Pairwise (· < ·)
  | [], k => List.Pairwise.nil
  | y :: ys, k => by
    rw [gvF]
    split
    · refine List.Pairwise.cons (fun x hx => ?_) (gvF_up l ys (k + 1))
      obtain ⟨i, s, _, _, _, h⟩ := (gvF_mem l ys (k + 1) x).1 hx
      omega
    · exact gvF_up l ys (k + 1)
theorem ref_l5 {a : Al} (h : Rt a) (l : List Int) : ∀ (s : List Sl2) (k : Nat) (st : Al), s = a.2.1.drop k → windroseref02_Give_l5 l s k st = (st.1, st.2.1 ++ gvS l s k, st.2.2 ++ gvF l s k)
  | [], k, st, _ => by simp [windroseref02_Give_l5, gvS, gvF]
  | y :: ys, k, st, e => by
    have hk : k < a.2.1.length := by
      rcases Nat.lt_or_ge k a.2.1.length with h | h
      · exact h
      · rw [List.drop_eq_nil_iff.2 h] at e; cases e
    rw [List.drop_eq_getElem_cons hk] at e
    injection e with e1 e2
    have hy : a.2.1[k]? = some y := by rw [List.getElem?_eq_getElem hk, e1]
    obtain ⟨r1, r2⟩ := h.rng hy
    rw [windroseref02_Give_l5]
    simp only [LR.seq]
    rw [has_eq, entity_ref ⟨by omega, r1.2⟩ r2, ref_l5 h l ys (k + 1) _ e2]
    rw [gvS, gvF]
    have hp : decide (entI ((k : Int) + 1) y.1 ∈ l) = gvP l k y := rfl
    rw [hp]
    cases gvP l k y with
    | true =>
      rw [if_pos rfl]
      by_cases g : y.1 < 7
      · rw [if_pos g, decide_eq_true g]; simp
      · rw [if_neg g, decide_eq_false g]; simp
    | false =>
      rw [if_neg Bool.false_ne_true]; simp
theorem ref_l1 {a : Al} : ∀ l : List Int, windroseref02_Give_l1 a l () = if ∀ x ∈ l, windroseref02_Is_m a x = true then .go () else .ret (noAl, 122)
  | [] => by rw [windroseref02_Give_l1, if_pos (fun x h => by cases h)]
  | y :: ys => by
    rw [windroseref02_Give_l1, ref_l1 ys]
    cases hy : windroseref02_Is_m a y with
    | false => rw [Bool.not_false, if_pos rfl, if_neg (fun h => by have := h y (List.mem_cons_self ..); rw [hy] at this; cases this)]; rfl
    | true =>
      rw [Bool.not_true, if_neg Bool.false_ne_true]
      by_cases h : ∀ x ∈ ys, windroseref02_Is_m a x = true
      · rw [if_pos h, if_pos (fun x hx => by rcases List.mem_cons.1 hx with rfl | hx; exact hy; exact h x hx)]
      · rw [if_neg h, if_neg (fun h2 => h (fun x hx => h2 x (List.mem_cons_of_mem _ hx)))]
theorem ref_l2 (L : List Int) : ∀ (l : List Int) (k : Nat), l = L.drop k → windroseref02_Give_l2 L l k () = if (∀ x ∈ l, 2 < x) ∧ l.Nodup ∧ (∀ x ∈ l, x ∉ L.take k) then .go () else .ret (noAl, 2)
  | [], k, e => by rw [windroseref02_Give_l2, if_pos ⟨fun x h => (by cases h), List.nodup_nil, fun x h => (by cases h)⟩]
  | y :: ys, k, e => by
    have hk : k < L.length := by
      rcases Nat.lt_or_ge k L.length with h | h
      · exact h
      · rw [List.drop_eq_nil_iff.2 h] at e; cases e
    rw [List.drop_eq_getElem_cons hk] at e
    injection e with e1 e2
    have hy : L[k]? = some y := by rw [List.getElem?_eq_getElem hk, e1]
    have ht := take_snoc L k y hy
    rw [windroseref02_Give_l2]
    simp only [LR.seq]
    rw [has_eq, ref_l2 L ys (k + 1) e2, ht]
    by_cases c1 : y ≤ 2
    · rw [if_pos c1, if_pos rfl, if_neg (fun h => by have := h.1 y (List.mem_cons_self ..); omega)]; rfl
    · rw [if_neg c1]
      by_cases c2 : y ∈ L.take k
      · rw [decide_eq_true c2, if_pos rfl, if_neg (fun h => h.2.2 y (List.mem_cons_self ..) c2)]; rfl
      · rw [decide_eq_false c2, if_neg Bool.false_ne_true]
        by_cases c3 : (∀ x ∈ ys, 2 < x) ∧ ys.Nodup ∧ (∀ x ∈ ys, x ∉ L.take k ++ [y])
        · rw [if_pos c3, if_pos]
          refine ⟨fun x hx => ?_, List.nodup_cons.2 ⟨fun hm => c3.2.2 y hm (by simp), c3.2.1⟩, fun x hx => ?_⟩
          · rcases List.mem_cons.1 hx with rfl | hx
            · omega
            · exact c3.1 x hx
          · rcases List.mem_cons.1 hx with rfl | hx
            · exact c2
            · exact fun hm => c3.2.2 x hx (List.mem_append_left _ hm)
        · rw [if_neg c3, if_neg]
          rintro ⟨h1, h2, h3⟩
          rw [List.nodup_cons] at h2
          refine c3 ⟨fun x hx => h1 x (List.mem_cons_of_mem _ hx), h2.2, fun x hx hm => ?_⟩
          rcases List.mem_append.1 hm with hm | hm
          · exact h3 x (List.mem_cons_of_mem _ hx) hm
          · rw [List.mem_singleton] at hm; exact h2.1 (by rw [← hm]; exact hx)
/-- What Give says. -/
noncomputable def giveP (a : Al) (l : List Int) : Al × Int := open Classical in if ∀ x ∈ l, alloc_alive_m a x = true then (if (∀ x ∈ l, 2 < x) ∧ l.Nodup then (giveR a l, 0) else (noAl, 2)) else (noAl, 122)
theorem give_ref {a : Al} (h : Rt a) (l : List Int) : windroseref02_Give_m a l = giveP a l := by
  unfold windroseref02_Give_m giveP
  rw [ref_l1, ref_l2 l l 0 rfl]
  by_cases c1 : ∀ x ∈ l, alloc_alive_m a x = true
  · rw [if_pos c1, if_pos (fun x hx => by rw [is_alive h]; exact c1 x hx), LR.on_go]
    by_cases c2 : (∀ x ∈ l, 2 < x) ∧ l.Nodup
    · rw [if_pos c2, if_pos ⟨c2.1, c2.2, fun x _ hm => by simp at hm⟩, LR.on_go]
      simp only [LR.seq]
      rw [ref_l5 h l a.2.1 0 _ rfl]
      simp [giveR]
    · rw [if_neg c2, if_neg (fun h2 => c2 ⟨h2.1, h2.2.1⟩), LR.on_ret]
  · rw [if_neg c1, if_neg (fun h2 => c1 (fun x hx => by rw [← is_alive h]; exact h2 x hx)), LR.on_ret]
/-! what the program does -/
theorem genAt_step (i j : Int) (s : GS) : genAt (giveStep i s).2.2.1 j = genAt s.2.2.1 j := by
  unfold giveStep genAt
  simp only [List.getD_eq_getElem?_getD]
  by_cases e : (i - 1).toNat = (j - 1).toNat
  · rw [e]
    rcases Nat.lt_or_ge (j - 1).toNat s.2.2.1.length with hl | hl
    · rw [List.getElem?_set_self hl]; rfl
    · rw [List.getElem?_eq_none (by simpa using hl), List.getElem?_eq_none hl]
  · rw [List.getElem?_set_ne e]
theorem gfold_free : ∀ (S : List Int) (s : GS), (gfold S s).2.2.2 = s.2.2.2 ++ S.filter (fun i => decide (genAt s.2.2.1 i < 7))
  | [], s => by simp [gfold]
  | i :: r, s => by
    rw [gfold, gfold_free r]
    simp only [genAt_step]
    rw [List.filter_cons]
    show (if genAt s.2.2.1 i < 7 then s.2.2.2 ++ [i] else s.2.2.2) ++ _ = _
    by_cases g : genAt s.2.2.1 i < 7
    · rw [if_pos g, decide_eq_true g, if_pos rfl]; simp
    · rw [if_neg g, decide_eq_false g, if_neg Bool.false_ne_true]
theorem gfold_mid : ∀ (S : List Int) (s : GS), (gfold S s).2.1 = s.2.1
  | [], s => rfl
  | i :: r, s => by rw [gfold, gfold_mid r]; rfl
theorem gfold_slots : ∀ (S : List Int) (s : GS) (j : Nat), (gfold S s).2.2.1[j]? = open Classical in if ∃ i ∈ S, (i - 1).toNat = j then (s.2.2.1[j]?).map (fun t => (t.1, false)) else s.2.2.1[j]?
  | [], s, j => by rw [if_neg (fun ⟨i, h, _⟩ => by cases h)]; rfl
  | i :: r, s, j => by
    rw [gfold, gfold_slots r]
    have hs : (giveStep i s).2.2.1[j]? = if (i - 1).toNat = j then (s.2.2.1[j]?).map (fun t => (t.1, false)) else s.2.2.1[j]? := by
      unfold giveStep genAt
      by_cases e : (i - 1).toNat = j
      · rw [if_pos e, e]
        rcases Nat.lt_or_ge j s.2.2.1.length with hl | hl
        · rw [List.getElem?_set_self hl, List.getD_eq_getElem?_getD, List.getElem?_eq_getElem hl]; rfl
        · rw [List.getElem?_eq_none (by simpa using hl), List.getElem?_eq_none hl]; rfl
      · rw [if_neg e, List.getElem?_set_ne e]
    rw [hs]
    by_cases e : (i - 1).toNat = j
    · rw [if_pos e, if_pos (⟨i, List.mem_cons_self .., e⟩ : ∃ i' ∈ i :: r, (i' - 1).toNat = j)]
      by_cases c : ∃ i' ∈ r, (i' - 1).toNat = j
      · rw [if_pos c]; cases s.2.2.1[j]? <;> rfl
      · rw [if_neg c]
    · rw [if_neg e]
      by_cases c : ∃ i' ∈ r, (i' - 1).toNat = j
      · rw [if_pos c, if_pos]
        obtain ⟨i', h1, h2⟩ := c
        exact ⟨i', List.mem_cons_of_mem _ h1, h2⟩
      · rw [if_neg c, if_neg]
        rintro ⟨i', h1, h2⟩
        rcases List.mem_cons.1 h1 with rfl | h1
        · exact e h2
        · exact c ⟨i', h1, h2⟩
theorem all_id_go (f : Int → Int → Bool) : ∀ (l : List Int) (k : Nat), (∀ (i : Nat) (x : Int), l[i]? = some x → f ((k + i : Nat) : Int) x = true) → alloc_all_Id_l1 f l k () = .go ()
  | [], k, _ => rfl
  | y :: ys, k, h => by
    rw [alloc_all_Id_l1, show f (k : Int) y = true from by simpa using h 0 y rfl, Bool.not_true, if_neg Bool.false_ne_true]
    exact all_id_go f ys (k + 1) (fun i x hi => by have := h (i + 1) x (by simpa using hi); rwa [show k + (i + 1) = k + 1 + i by omega] at this)
theorem all_id_iff {f : Int → Bool} {l : List Int} : alloc_all_Id_m l (fun _ z => f z) = true ↔ ∀ x ∈ l, f x = true := by
  refine ⟨all_id, fun h => ?_⟩
  unfold alloc_all_Id_m
  rw [all_id_go (fun _ z => f z) l 0 (fun i x hi => h x (List.mem_of_getElem? hi)), LR.on_go]
/-- the place of one who is alive -/
def idxI (x : Int) : Int := (ident_Parts_m x).1
theorem idx_of {a : Al} (h : Rt a) {x : Int} (hx : alloc_alive_m a x = true) : ∃ (i : Nat) (g : Int), a.2.1[i]? = some (g, true) ∧ x = entI ((i : Int) + 1) g ∧ idxI x = (i : Int) + 1 := by
  obtain ⟨i, hi⟩ := (alive_iff h x).1 hx
  have := hi.parts h
  obtain ⟨g, h1, h2⟩ := hi
  exact ⟨i, g, h1, h2, this⟩
theorem idx_inj {a : Al} (h : Rt a) {x y : Int} (hx : alloc_alive_m a x = true) (hy : alloc_alive_m a y = true) (e : idxI x = idxI y) : x = y := by
  obtain ⟨i, g, h1, h2, h3⟩ := idx_of h hx
  obtain ⟨j, g', h4, h5, h6⟩ := idx_of h hy
  have : i = j := by omega
  subst this
  rw [h1] at h4; injection h4 with h4; injection h4 with h4
  rw [h2, h5, h4]
theorem idx_two {a : Al} (h : Rt a) {x : Int} (hx : alloc_alive_m a x = true) : 2 < idxI x ↔ 2 < x := by
  obtain ⟨i, g, h1, h2, h3⟩ := idx_of h hx
  have hr := h.rng h1
  have hg := h.g i _ h1
  simp only at hr hg
  rw [h2, ← h2, h3]
  constructor
  · intro k; rw [h2]; unfold entI; omega
  · intro k
    rcases Nat.lt_or_ge i 2 with h4 | h4
    · have := hg.2.2 h4
      injection this with this
      rw [h2, this] at k; unfold entI at k; omega
    · omega
theorem give_rt {a : Al} (h : Rt a) (l : List Int) : alloc_Give_m a l = giveP a l := by
  have hn2 := h.n2
  have hm2 := h.m2
  unfold alloc_Give_m giveP
  rw [(check_iff (by omega)).1.2 h, if_neg (by decide)]
  have hall : alloc_all_Id_m l (fun z0 z1 => alloc_Give_1_m a z0 z1) = true ↔ ∀ x ∈ l, alloc_alive_m a x = true := all_id_iff (f := fun z => alloc_alive_m a z)
  by_cases c1 : ∀ x ∈ l, alloc_alive_m a x = true
  rotate_left
  · have : alloc_all_Id_m l (fun z0 z1 => alloc_Give_1_m a z0 z1) = false := by
      cases e : alloc_all_Id_m l (fun z0 z1 => alloc_Give_1_m a z0 z1) with
      | false => rfl
      | true => exact absurd (hall.1 e) c1
    rw [this, Bool.not_false, if_pos rfl, if_neg c1]; rfl
  rw [hall.2 c1, Bool.not_true, if_neg Bool.false_ne_true, if_pos c1]
  simp only [LR.seq, alloc_own_eq]
  rw [give_l1_eq, List.nil_append]
  have hX : (l.map (fun x => (ident_Parts_m x).1)) = l.map idxI := rfl
  rw [hX]
  have hlen : (sortI (l.map idxI)).length = (l.map idxI).length := (sortI_perm _).length_eq
  have hb := bad_iff (l.map idxI)
  have hcond : ((∀ x ∈ l.map idxI, 2 < x) ∧ (l.map idxI).Nodup) ↔ ((∀ x ∈ l, 2 < x) ∧ l.Nodup) := by
    constructor
    · rintro ⟨h1, h2⟩
      refine ⟨fun x hx => (idx_two h (c1 x hx)).1 (h1 _ (List.mem_map_of_mem hx)), ?_⟩
      have := List.pairwise_map.1 h2
      exact this.imp (fun hne e => hne (by rw [e]))
    · rintro ⟨h1, h2⟩
      refine ⟨fun x hx => ?_, ?_⟩
      · obtain ⟨y, hy, rfl⟩ := List.mem_map.1 hx
        exact (idx_two h (c1 y hy)).2 (h1 y hy)
      · refine List.pairwise_map.2 (List.Pairwise.imp_of_mem (fun {x y} hx hy hne e => hne (idx_inj h (c1 x hx) (c1 y hy) e)) h2)
  by_cases c2 : (∀ x ∈ l, 2 < x) ∧ l.Nodup
  rotate_left
  · rw [if_neg c2]
    have hne : ¬ (∀ j, 0 ≤ j → j < (sortI (l.map idxI)).length → badAt (sortI (l.map idxI)) j = false) := fun k => c2 (hcond.1 (hb.1 k))
    have hex : ∃ j, 0 ≤ j ∧ j < (sortI (l.map idxI)).length ∧ badAt (sortI (l.map idxI)) j = true := by
      refine Classical.byContradiction (fun k => hne (fun j h1 h2 => ?_))
      cases e : badAt (sortI (l.map idxI)) j with
      | false => rfl
      | true => exact absurd ⟨j, h1, h2, e⟩ k
    rw [give_l2_ret _ _ _ _ (by omega) hex, LR.on_ret]
  · rw [if_pos c2, give_l2_go _ _ _ _ (by omega) (hb.2 (hcond.2 c2)), LR.on_go, List.drop_zero]
    have hmemS : ∀ x, x ∈ sortI (l.map idxI) ↔ ∃ y ∈ l, idxI y = x := fun x => by rw [(sortI_perm _).mem_iff, List.mem_map]
    -- a place of S, and whom it is of
    have hS : ∀ (j : Nat) (t : Sl2), a.2.1[j]? = some t → ((∃ i ∈ sortI (l.map idxI), (i - 1).toNat = j) ↔ gvP l j t = true) := by
      intro j t ht
      unfold gvP
      rw [decide_eq_true_eq]
      constructor
      · rintro ⟨i, h1, h2⟩
        obtain ⟨y, hy, rfl⟩ := (hmemS i).1 h1
        obtain ⟨q, g, h3, h4, h5⟩ := idx_of h (c1 y hy)
        have : q = j := by omega
        subst this
        rw [h3] at ht; injection ht with ht; subst ht
        rw [← h4]; exact hy
      · intro hm
        obtain ⟨q, g, h3, h4, h5⟩ := idx_of h (c1 _ hm)
        have hr1 := h.rng ht
        have hr2 := h.rng h3
        simp only at hr1 hr2
        have : q = j := by unfold entI at h4; omega
        subst this
        exact ⟨_, (hmemS _).2 ⟨_, hm, rfl⟩, by rw [h5]; omega⟩
    have hslots : (gfold (sortI (l.map idxI)) (a.2.1, a.1, a.2.1, a.2.2)).2.2.1 = gvS l a.2.1 0 := by
      refine List.ext_getElem? (fun j => ?_)
      rw [gfold_slots, gvS_get]
      show (if ∃ i ∈ sortI (l.map idxI), (i - 1).toNat = j then (a.2.1[j]?).map (fun t => (t.1, false)) else a.2.1[j]?) = _
      cases ht : a.2.1[j]? with
      | none => split <;> rfl
      | some t =>
        have := hS j t ht
        rw [Nat.zero_add]
        by_cases c : ∃ i ∈ sortI (l.map idxI), (i - 1).toNat = j
        · rw [if_pos c, Option.map_some, Option.map_some, if_pos (this.1 c)]
        · rw [if_neg c, Option.map_some, if_neg (fun k => c (this.2 k))]
    have hfree : (gfold (sortI (l.map idxI)) (a.2.1, a.1, a.2.1, a.2.2)).2.2.2 = a.2.2 ++ gvF l a.2.1 0 := by
      rw [gfold_free]
      congr 1
      show (sortI (l.map idxI)).filter (fun i => decide (genAt a.2.1 i < 7)) = gvF l a.2.1 0
      have hnd : (sortI (l.map idxI)).Nodup := (sortI_perm _).nodup_iff.2 (hcond.2 c2).2
      have hnd1 : ((sortI (l.map idxI)).filter (fun i => decide (genAt a.2.1 i < 7))).Nodup := hnd.sublist List.filter_sublist
      have hnd2 : (gvF l a.2.1 0).Nodup := (gvF_up l a.2.1 0).imp (fun k => by intro e; omega)
      refine List.Perm.eq_of_pairwise (le := (· ≤ ·)) (fun x y _ _ h1 h2 => by omega) ((sortI_sorted _).sublist List.filter_sublist) ((gvF_up l a.2.1 0).imp (fun k => by omega)) ((List.perm_ext_iff_of_nodup hnd1 hnd2).2 (fun x => ?_))
      rw [List.mem_filter, gvF_mem, decide_eq_true_eq]
      constructor
      · rintro ⟨h1, h2⟩
        obtain ⟨y, hy, rfl⟩ := (hmemS x).1 h1
        obtain ⟨q, g, h3, h4, h5⟩ := idx_of h (c1 y hy)
        refine ⟨q, (g, true), h3, by rw [Nat.zero_add]; exact (hS q _ h3).1 ⟨_, h1, by rw [h5]; omega⟩, ?_, by rw [h5]; simp⟩
        unfold genAt at h2
        rw [h5, show ((q : Int) + 1 - 1).toNat = q by omega, List.getD_eq_getElem?_getD, h3] at h2
        exact h2
      · rintro ⟨q, t, h3, h4, h5, h6⟩
        rw [Nat.zero_add] at h4 h6
        obtain ⟨i, h7, h8⟩ := (hS q t h3).2 h4
        obtain ⟨y, hy, rfl⟩ := (hmemS i).1 h7
        obtain ⟨q', g, h9, _, h10⟩ := idx_of h (c1 y hy)
        have : idxI y = x := by omega
        refine ⟨by rw [← this]; exact h7, ?_⟩
        unfold genAt
        rw [h6, show ((q : Int) + 1 - 1).toNat = q by omega, List.getD_eq_getElem?_getD, h3]
        exact h5
    rw [gfold_mid, hslots, hfree]; rfl
theorem give_not {a : Al} (hs : a.2.1.length ≤ 2000000) (h : ¬ Rt a) (l : List Int) : alloc_Give_m a l = (noAl, 120) := by
  have h1 : alloc_Check_m a = 120 := by
    rcases (check_iff hs).2 with h2 | h2
    · exact absurd ((check_iff hs).1.1 h2) h
    · exact h2
  unfold alloc_Give_m
  rw [h1, if_pos (by decide)]; rfl
end Go.SX
