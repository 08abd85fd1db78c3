/- 'PlanTouches' answers true, whatever it is handed, and what it is handed reads behind it as it did: the row, and its tied card. -/
import Derived.RangeFuncNested
import Derived.RangeFuncBound
import Derived.RangeFuncCalls
import Derived.RangeFuncLeaves
import Derived.Shelf.Abstract
import Derived.Laws.AppendOwn
import Derived.Laws.OwnMore
import Derived.KernelRfl
import Derived.IntWalk
import Derived.Laws.Append
import Derived.WideLaws
import Derived.Laws.Slices
import Derived.Laws.MakeOwn
import Derived.OrdersIn
import Derived.Laws.Cover3
import Derived.Test.YtmhoclmjgjopfaaDoorProg
import Derived.Laws.StructEq
import Derived.Shelf.Sort.Plain
import Derived.Sort.OwnSortedInts
import Derived.Shelf.Slices.In.SortNone
import Derived.Shelf.Slices.CompactI
import Derived.ProofKit
import Derived.ChangeSlices
import Derived.Carry
import Derived.Deep.Slices
import Derived.OpenShut
import Derived.Test.YtmhoclmjgjopfaaDoorCards
import Derived.Test.YtmhoclmjgjopfaaDoorTie
import Derived.LaidMore
import Derived.Stop.Joined
import Derived.MakeChecks
import Derived.Test.YtmhoclmjgjopfaaDoorKO3
set_option linter.unusedVariables false
set_option linter.unusedSimpArgs false
namespace Go.SX
open Go
theorem cf_int_l1 (f : Int → Bool) : ∀ (l : List Int) (k : Nat), (∃ j : Nat, slices_IndexFunc_int_l1 f l k () = .ret (j : Int) ∧ l.any f = true) ∨ (slices_IndexFunc_int_l1 f l k () = .go () ∧ l.any f = false)
  | [], k => .inr ⟨rfl, rfl⟩
  | y :: ys, k => by
    rw [slices_IndexFunc_int_l1, List.any_cons]
    cases h : f y with
    | true => exact .inl ⟨k, by rw [if_pos rfl], rfl⟩
    | false => rw [if_neg Bool.false_ne_true, Bool.false_or]; exact cf_int_l1 f ys (k + 1)
theorem cf_int (l : List Int) (f : Int → Bool) : slices_ContainsFunc_int_m l f = l.any f := by
  unfold slices_ContainsFunc_int_m slices_IndexFunc_int_m
  rcases cf_int_l1 f l 0 with ⟨j, e, h⟩ | ⟨e, h⟩
  · rw [e, LR.on_ret, h]; exact decide_eq_true (by omega)
  · rw [e, LR.on_go, h]; rfl
theorem cf_mention_l1 (f : (Int × Int) → Bool) : ∀ (l : List ((Int × Int))) (k : Nat), (∃ j : Nat, slices_IndexFunc_mention_l1 f l k () = .ret (j : Int) ∧ l.any f = true) ∨ (slices_IndexFunc_mention_l1 f l k () = .go () ∧ l.any f = false)
  | [], k => .inr ⟨rfl, rfl⟩
  | y :: ys, k => by
    rw [slices_IndexFunc_mention_l1, List.any_cons]
    cases h : f y with
    | true => exact .inl ⟨k, by rw [if_pos rfl], rfl⟩
    | false => rw [if_neg Bool.false_ne_true, Bool.false_or]; exact cf_mention_l1 f ys (k + 1)
theorem cf_mention (l : List ((Int × Int))) (f : (Int × Int) → Bool) : slices_ContainsFunc_mention_m l f = l.any f := by
  unfold slices_ContainsFunc_mention_m slices_IndexFunc_mention_m
  rcases cf_mention_l1 f l 0 with ⟨j, e, h⟩ | ⟨e, h⟩
  · rw [e, LR.on_ret, h]; exact decide_eq_true (by omega)
  · rw [e, LR.on_go, h]; rfl
def deadB (D : List Dh) (k : Int) : Bool := decide (k ∈ D.map Prod.fst)
def saysB (l : List Rl) (D : List Dh) (h : Hd) (p : Int) : Bool := (mentL l h).any (fun m => deadB D m.1 && decide (m.2 = p))
def refB (l : List Rl) (D : List Dh) (h : Hd) : Bool := !deadB D h.1 && saysB l D h 2
def goneB (l : List Rl) (D : List Dh) (h : Hd) : Bool := !deadB D h.1 && (saysB l D h 2 || saysB l D h 0)
theorem of_r1 : ∀ (D : List Dh) (s : (List (Int × Bool)) × (List Int) × (List Hd) × (List Hd)), (plan_Of_r1 D s).2 = (s.2.1 ++ D.map Prod.fst, s.2.2.1, s.2.2.2) ∧ ∀ k, (mlk (plan_Of_r1 D s).1 k).getD false = (deadB D k || (mlk s.1 k).getD false)
  | [], s => ⟨by simp [plan_Of_r1], fun k => by simp [plan_Of_r1, deadB]⟩
  | d :: D, s => by
    obtain ⟨h1, h2⟩ := of_r1 D (mpu s.1 d.1 true, s.2.1 ++ [d.1], s.2.2.1, s.2.2.2)
    rw [plan_Of_r1]
    refine ⟨by rw [h1]; simp, fun k => ?_⟩
    rw [h2, mlk_mpu]
    unfold deadB
    rw [List.map_cons]
    by_cases e : k = d.1
    · rw [if_pos e]; simp [e]
    · rw [if_neg e, show decide (k ∈ d.1 :: D.map Prod.fst) = decide (k ∈ D.map Prod.fst) by rw [decide_eq_decide, List.mem_cons]; exact ⟨fun h => h.resolve_left e, .inr⟩]
theorem of_says (l : List Rl) (D : List Dh) (M : List (Int × Bool)) (hM : ∀ k, (mlk M k).getD false = deadB D k) (h : Hd) (p : Int) : plan_Of_2_m (mentL l h) M p = saysB l D h p := by
  unfold plan_Of_2_m saysB
  rw [LR.seq_go, cf_mention]
  refine congrArg (fun f => (mentL l h).any f) (funext fun m => ?_)
  unfold plan_Of_2_2_1_m
  rw [hM]
  cases deadB D m.1 <;> simp
theorem of_r2 (l : List Rl) (D : List Dh) (M : List (Int × Bool)) (hM : ∀ k, (mlk M k).getD false = deadB D k) : ∀ (xs : List Hd) (s : (List Int) × (List Hd) × (List Hd)), plan_Of_r2 M (xs.map (fun h => (h, mentL l h))) s = (s.1, s.2.1 ++ xs.filter (goneB l D), s.2.2 ++ xs.filter (refB l D))
  | [], s => by simp [plan_Of_r2]
  | h :: xs, s => by
    rw [List.map_cons, plan_Of_r2, hM]
    simp only [of_says l D M hM, LR.seq]
    have ih := of_r2 l D M hM xs
    rw [List.filter_cons, List.filter_cons]
    unfold goneB refB at *
    cases hd : deadB D h.1 with
    | true => rw [if_pos rfl, ih]; simp
    | false =>
      rw [if_neg Bool.false_ne_true]
      cases h2 : saysB l D h 2 with
      | true => simp [ih]
      | false =>
        cases h0 : saysB l D h 0 with
        | true => simp [ih]
        | false => simp [ih]
theorem pindex_iff (n : Int) : plan_index_m n = true ↔ 1 ≤ n ∧ n ≤ 1048578 := by
  unfold plan_index_m
  by_cases h : 1 ≤ n
  · rw [if_pos h, decide_eq_true_eq]; exact ⟨fun k => ⟨h, k⟩, fun k => k.2⟩
  · rw [if_neg h]; exact ⟨fun k => (by cases k), fun k => absurd k.1 h⟩
def idxOk (n : Int) : Prop := 1 ≤ n ∧ n ≤ 1048578
theorem of_first (first : List Int) : slices_ContainsFunc_int_m first (fun z0 => plan_Of_1_m z0) = false ↔ ∀ n ∈ first, idxOk n := by
  rw [cf_int, List.any_eq_false]
  constructor
  · intro h n hn
    have := h n hn
    unfold plan_Of_1_m at this
    exact (pindex_iff n).1 (by simpa using this)
  · intro h n hn
    unfold plan_Of_1_m
    simpa using (pindex_iff n).2 (h n hn)
/-- who dies -/
def diesD (l : List Rl) (held : List Hd) (first : List Int) : List Dh := plan_deaths_m (plan_killers_m l held) first
theorem of_eq {l : List Rl} {held : List Hd} {first : List Int} (hc : plan_Check_m l held = 0) (hi : ∀ n ∈ first, idxOk n) :
    plan_Of_m l held first = ((sortI ((diesD l held first).map Prod.fst), held.filter (goneB l (diesD l held first)), held.filter (refB l (diesD l held first))), 0) := by
  unfold plan_Of_m
  rw [hc, if_neg (fun k => k rfl), (of_first first).2 hi, if_neg Bool.false_ne_true]
  simp only [LR.seq]
  rw [show plan_deaths_m (plan_killers_m l held) first = diesD l held first from rfl]
  obtain ⟨h1, h2⟩ := of_r1 (diesD l held first) (([] : List (Int × Bool)), [], [], [])
  rw [ment_eq, of_r2 l (diesD l held first) _ (fun k => by rw [h2, mlk_nil]; simp), h1]
  rfl
theorem of_bad {l : List Rl} {held : List Hd} {first : List Int} (hc : plan_Check_m l held ≠ 0) : plan_Of_m l held first = (([], [], []), plan_Check_m l held) := by
  unfold plan_Of_m
  rw [if_pos hc]
theorem of_arg {l : List Rl} {held : List Hd} {first : List Int} (hc : plan_Check_m l held = 0) (hi : ¬ ∀ n ∈ first, idxOk n) : plan_Of_m l held first = (([], [], []), 2) := by
  unfold plan_Of_m
  rw [if_neg (fun k => k hc), if_pos]
  cases h : slices_ContainsFunc_int_m first (fun z0 => plan_Of_1_m z0) with
  | true => rfl
  | false => exact absurd ((of_first first).1 h) hi
theorem dies_law {l : List Rl} {held : List Hd} {first : List Int} (hh : held.length ≤ 100) (hf : first.length ≤ 100) : ∃ met, Dv first (plan_killers_m l held) met (diesD l held first) ∧ Bf first (plan_killers_m l held) (diesD l held first).length (diesD l held first) :=
  deaths_law first (plan_killers_m l held) (kill_by l held _ rfl hh) hf
theorem dies_len {l : List Rl} {held : List Hd} {first : List Int} (hh : held.length ≤ 100) (hf : first.length ≤ 100) : (diesD l held first).length ≤ first.length + held.length := by
  obtain ⟨met, h1, h2⟩ := dies_law (l := l) hh hf
  have := nodup_len (l2 := first ++ held.map Prod.fst) h1.nd (fun x hx => by
    rw [List.mem_append]
    rcases h1.s x hx with k | ⟨j, d, hd, rfl⟩
    · exact .inl k
    · rw [kill_eq] at hd
      exact .inr (List.mem_map_of_mem (List.mem_filter.1 hd).1))
  rwa [List.length_map, List.length_append, List.length_map] at this
theorem of_len (l : List Rl) (held : List Hd) (first : List Int) (r : ((List Int) × (List Hd) × (List Hd)) × Int) (e : r = plan_Of_m l held first) (hh : held.length ≤ 100) (hf : first.length ≤ 100) : r.1.1.length ≤ first.length + held.length ∧ r.1.2.1.length ≤ held.length ∧ r.1.2.2.length ≤ held.length := by
  subst e
  by_cases hc : plan_Check_m l held = 0
  · by_cases hi : ∀ n ∈ first, idxOk n
    · rw [of_eq hc hi]
      refine ⟨?_, List.length_filter_le _ _, List.length_filter_le _ _⟩
      show (sortI _).length ≤ _
      rw [(sortI_perm _).length_eq, List.length_map]
      exact dies_len hh hf
    · rw [of_arg hc hi]; simp
  · rw [of_bad hc]; simp
end Go.SX

set_option linter.unusedVariables false
set_option linter.unusedSimpArgs false
namespace Go.SX
open Go Go.Proofs

theorem small_len : windroselaw20_small_m.1.length = 3 ∧ windroselaw20_small_m.2.length = 4 := by
  unfold windroselaw20_small_m
  simp [LR.seq, windroselaw20_small_l1]
def windroselaw20_wakes_m  : Bool :=
  LR.seq (windroselaw20_small_m) (fun r12 => LR.seq (plan_Of_m r12.1 r12.2 [4]) (fun r19 => LR.seq (plan_Of_m r12.1 r12.2 [3]) (fun r26 => LR.seq (plan_Why_m r12.1 r12.2 4 6) (fun r32 => LR.seq (plan_Why_m r12.1 r12.2 4 7) (fun r38 => if r19.2 = 0 then (if r26.2 = 0 then (if r32.2 = 0 then (if r38.2 = 4 then (if r19.1.1 = [4, 5, 6] then (if r19.1.2.1 = (r12.2.drop 2) then (if r19.1.2.2 = (r12.2.drop 3) then (if r26.1.1 = [3, 8] then ((decide (r32.1 = (r12.2.take 2)))) else false) else false) else false) else false) else false) else false) else false) else false)))))
set_option maxHeartbeats 3200000 in
theorem windroselaw20_wakes_c (H : Heap) {tG1 : TypeId} (hG1 : H 1 = some (.cells #[.int .i64 1, .bool true, .bool true, .int .i64 0, .int .i64 1, .int .i64 2, .int .i64 2, .bool true, .bool false, .int .i64 0, .int .i64 0, .int .i64 2] tG1)) : Fv Tryd.prog (fnv 36) [] H (.bool windroselaw20_wakes_m) := by
  refine Fc.of_body (N := 87) Tryd.func36 rfl (by kernel_rfl) rfl rfl ?_
  intro w0
  refine T.seq ?_
  refine T.region ?_
  refine R.asE rfl (by conv => lhs; whnf) ?_
  refine TL.nil (Post.thnN ?_)
  refine T.seq ?_
  refine T.region ?_
  obtain ⟨r12, er12⟩ : ∃ r, r = windroselaw20_small_m := ⟨_, rfl⟩
  refine TL.call [] rfl rfl rfl (windroselaw20_small_c _ ) ?_
  intro v12 H12 L12 s12 q12
  rw [← er12] at q12
  obtain ⟨u12_0_0, u12_1_0, c12_0_0, c12_1_0, rfl, rfl, w12_0_0, w12_1_0⟩ := q12
  obtain ⟨A12_0_0, p12_0_0, rfl, m12_0_0, n12_0_0⟩ := OwnS.shape w12_0_0
  obtain ⟨A12_1_0, p12_1_0, rfl, m12_1_0, n12_1_0⟩ := OwnS.shape w12_1_0
  have tq12 : r12.1.length = 3 ∧ r12.2.length = 4 := by rw [er12]; exact small_len
  refine R.mvE rfl (by conv => lhs; whnf) ?_
  refine R.ext rfl rfl rfl ?_
  refine R.ext rfl rfl rfl ?_
  refine R.asE rfl (by conv => lhs; whnf) ?_
  refine R.asE rfl (by conv => lhs; whnf) ?_
  refine TL.nil (Post.thnN ?_)
  refine T.seq ?_
  refine T.region ?_
  refine R.mvE rfl (by conv => lhs; whnf) ?_
  refine R.mvE rfl (by conv => lhs; whnf) ?_
  refine R.bs rfl (run_buildSlice1 Tryd.underlying23 Tryd.sizeOf3 Tryd.zeroValue3 rfl rfl) ?_
  intro b18
  have w18 : OwnS (intE .i64) 3 H12 (.slice (some ⟨b18, 0, none⟩) 1 1) [4] [(b18, .cells #[.int .i64 4] 3)] := OwnS.lit (xs := [4]) (cellsOf_cons (a := [.int .i64 4]) rfl cellsOf_nil) (by show 1 ≤ maxLen; decide)
  refine TL.shut (.tl .hd) ?_
  intro HF12_0_0_1 sF12_0_0_1 qF12_0_0_1
  have fF12_0_0_1 := OwnS.read w12_0_0 sF12_0_0_1 qF12_0_0_1
  refine TL.shut (.tl .hd) ?_
  intro HF12_1_0_2 sF12_1_0_2 qF12_1_0_2
  have fF12_1_0_2 := OwnS.read (OwnS.mono w12_1_0 sF12_0_0_1) sF12_1_0_2 qF12_1_0_2
  refine TL.shut .hd ?_
  intro HF18_3 sF18_3 qF18_3
  have fF18_3 := OwnS.read (OwnS.mono w18 (sF12_0_0_1.trans sF12_1_0_2)) sF18_3 qF18_3
  obtain ⟨r19, er19⟩ : ∃ r, r = (plan_Of_m r12.1 r12.2 [4]) := ⟨_, rfl⟩
  refine TL.call [] rfl rfl rfl (plan_Of_c _ ((s12.trans (sF12_0_0_1.trans (sF12_1_0_2.trans sF18_3))) _ _ hG1) _ r12.1 (fF12_0_0_1.mono (sF12_1_0_2.trans sF18_3)) _ r12.2 (fF12_1_0_2.mono sF18_3) _ [4] fF18_3 (by first | omega | (simp; done) | (simp; omega) | (simp at *; omega)) (by first | omega | (simp; done) | (simp; omega) | (simp at *; omega)) (by first | omega | (simp; done) | (simp; omega) | (simp at *; omega))) ?_
  intro v19 H19 L19 s19 q19
  rw [← er19] at q19
  obtain ⟨u19_0_0, u19_0_1, u19_0_2, c19_0_0, c19_0_1, c19_0_2, rfl, rfl, w19_0_0, w19_0_1, w19_0_2⟩ := q19
  obtain ⟨A19_0_0, p19_0_0, rfl, m19_0_0, n19_0_0⟩ := OwnS.shape w19_0_0
  obtain ⟨A19_0_1, p19_0_1, rfl, m19_0_1, n19_0_1⟩ := OwnS.shape w19_0_1
  obtain ⟨A19_0_2, p19_0_2, rfl, m19_0_2, n19_0_2⟩ := OwnS.shape w19_0_2
  have to19 := of_len _ _ _ _ er19 (by first | omega | (simp; done) | (simp; omega) | (simp at *; omega)) (by first | omega | (simp; done) | (simp; omega) | (simp at *; omega))
  refine R.mvE rfl (by conv => lhs; whnf) ?_
  refine R.ext rfl rfl rfl ?_
  refine R.ext rfl rfl rfl ?_
  refine R.alloc Tryd.zeroValue81 rfl ?_
  intro b3
  refine R.stX (old := [.slice none 0 0, .slice none 0 0, .slice none 0 0]) (l := [.slice A19_0_0 r19.1.1.length p19_0_0, .slice A19_0_1 r19.1.2.1.length p19_0_1, .slice A19_0_2 r19.1.2.2.length p19_0_2]) (new := [.slice A19_0_0 r19.1.1.length p19_0_0, .slice A19_0_1 r19.1.2.1.length p19_0_1, .slice A19_0_2 r19.1.2.2.length p19_0_2]) (et := 81) Tryd.sizeOf81 rfl rfl rfl rfl rfl (by show 0 + 3 ≤ 3; decide) rfl (all_one rfl) .hd ?_
  refine R.asE rfl (by conv => lhs; whnf) ?_
  refine TL.shut (.tl .hd) ?_
  intro HF19_0_0_4 sF19_0_0_4 qF19_0_0_4
  have fF19_0_0_4 := OwnS.read w19_0_0 sF19_0_0_4 qF19_0_0_4
  refine TL.shut (.tl .hd) ?_
  intro HF19_0_1_5 sF19_0_1_5 qF19_0_1_5
  have fF19_0_1_5 := OwnS.read (OwnS.mono w19_0_1 sF19_0_0_4) sF19_0_1_5 qF19_0_1_5
  refine TL.shut (.tl .hd) ?_
  intro HF19_0_2_6 sF19_0_2_6 qF19_0_2_6
  have fF19_0_2_6 := OwnS.read (OwnS.mono w19_0_2 (sF19_0_0_4.trans sF19_0_1_5)) sF19_0_2_6 qF19_0_2_6
  refine TL.shut .hd ?_
  intro Hb3_7 sb3_7 qb3_7
  have hb3_7 : Hb3_7 b3 = some (.cells #[.slice A19_0_0 r19.1.1.length p19_0_0, .slice A19_0_1 r19.1.2.1.length p19_0_1, .slice A19_0_2 r19.1.2.2.length p19_0_2] 81) := shut1 qb3_7
  refine TL.nil (Post.thnN ?_)
  refine T.seq ?_
  refine T.region ?_
  refine R.mvE rfl (by conv => lhs; whnf) ?_
  refine R.mvE rfl (by conv => lhs; whnf) ?_
  refine R.bs rfl (run_buildSlice1 Tryd.underlying23 Tryd.sizeOf3 Tryd.zeroValue3 rfl rfl) ?_
  intro b25
  have w25 : OwnS (intE .i64) 3 Hb3_7 (.slice (some ⟨b25, 0, none⟩) 1 1) [3] [(b25, .cells #[.int .i64 3] 3)] := OwnS.lit (xs := [3]) (cellsOf_cons (a := [.int .i64 3]) rfl cellsOf_nil) (by show 1 ≤ maxLen; decide)
  refine TL.shut .hd ?_
  intro HF25_8 sF25_8 qF25_8
  have fF25_8 := OwnS.read w25 sF25_8 qF25_8
  obtain ⟨r26, er26⟩ : ∃ r, r = (plan_Of_m r12.1 r12.2 [3]) := ⟨_, rfl⟩
  refine TL.call [] rfl rfl rfl (plan_Of_c _ ((s12.trans (sF12_0_0_1.trans (sF12_1_0_2.trans (sF18_3.trans (s19.trans (sF19_0_0_4.trans (sF19_0_1_5.trans (sF19_0_2_6.trans (sb3_7.trans sF25_8))))))))) _ _ hG1) _ r12.1 (fF12_0_0_1.mono (sF12_1_0_2.trans (sF18_3.trans (s19.trans (sF19_0_0_4.trans (sF19_0_1_5.trans (sF19_0_2_6.trans (sb3_7.trans sF25_8)))))))) _ r12.2 (fF12_1_0_2.mono (sF18_3.trans (s19.trans (sF19_0_0_4.trans (sF19_0_1_5.trans (sF19_0_2_6.trans (sb3_7.trans sF25_8))))))) _ [3] fF25_8 (by first | omega | (simp; done) | (simp; omega) | (simp at *; omega)) (by first | omega | (simp; done) | (simp; omega) | (simp at *; omega)) (by first | omega | (simp; done) | (simp; omega) | (simp at *; omega))) ?_
  intro v26 H26 L26 s26 q26
  rw [← er26] at q26
  obtain ⟨u26_0_0, u26_0_1, u26_0_2, c26_0_0, c26_0_1, c26_0_2, rfl, rfl, w26_0_0, w26_0_1, w26_0_2⟩ := q26
  obtain ⟨A26_0_0, p26_0_0, rfl, m26_0_0, n26_0_0⟩ := OwnS.shape w26_0_0
  obtain ⟨A26_0_1, p26_0_1, rfl, m26_0_1, n26_0_1⟩ := OwnS.shape w26_0_1
  obtain ⟨A26_0_2, p26_0_2, rfl, m26_0_2, n26_0_2⟩ := OwnS.shape w26_0_2
  have to26 := of_len _ _ _ _ er26 (by first | omega | (simp; done) | (simp; omega) | (simp at *; omega)) (by first | omega | (simp; done) | (simp; omega) | (simp at *; omega))
  refine R.mvE rfl (by conv => lhs; whnf) ?_
  refine R.ext rfl rfl rfl ?_
  refine R.ext rfl rfl rfl ?_
  refine R.alloc Tryd.zeroValue81 rfl ?_
  intro b5
  refine R.stX (old := [.slice none 0 0, .slice none 0 0, .slice none 0 0]) (l := [.slice A26_0_0 r26.1.1.length p26_0_0, .slice A26_0_1 r26.1.2.1.length p26_0_1, .slice A26_0_2 r26.1.2.2.length p26_0_2]) (new := [.slice A26_0_0 r26.1.1.length p26_0_0, .slice A26_0_1 r26.1.2.1.length p26_0_1, .slice A26_0_2 r26.1.2.2.length p26_0_2]) (et := 81) Tryd.sizeOf81 rfl rfl rfl rfl rfl (by show 0 + 3 ≤ 3; decide) rfl (all_one rfl) .hd ?_
  refine R.asE rfl (by conv => lhs; whnf) ?_
  refine TL.shut (.tl .hd) ?_
  intro HF26_0_0_9 sF26_0_0_9 qF26_0_0_9
  have fF26_0_0_9 := OwnS.read w26_0_0 sF26_0_0_9 qF26_0_0_9
  refine TL.shut (.tl .hd) ?_
  intro HF26_0_1_10 sF26_0_1_10 qF26_0_1_10
  have fF26_0_1_10 := OwnS.read (OwnS.mono w26_0_1 sF26_0_0_9) sF26_0_1_10 qF26_0_1_10
  refine TL.shut (.tl .hd) ?_
  intro HF26_0_2_11 sF26_0_2_11 qF26_0_2_11
  have fF26_0_2_11 := OwnS.read (OwnS.mono w26_0_2 (sF26_0_0_9.trans sF26_0_1_10)) sF26_0_2_11 qF26_0_2_11
  refine TL.shut .hd ?_
  intro Hb5_12 sb5_12 qb5_12
  have hb5_12 : Hb5_12 b5 = some (.cells #[.slice A26_0_0 r26.1.1.length p26_0_0, .slice A26_0_1 r26.1.2.1.length p26_0_1, .slice A26_0_2 r26.1.2.2.length p26_0_2] 81) := shut1 qb5_12
  refine TL.nil (Post.thnN ?_)
  refine T.seq ?_
  refine T.region ?_
  refine R.mvE rfl (by conv => lhs; whnf) ?_
  refine R.mvE rfl (by conv => lhs; whnf) ?_
  obtain ⟨r32, er32⟩ : ∃ r, r = (plan_Why_m r12.1 r12.2 4 6) := ⟨_, rfl⟩
  refine TL.call [] rfl rfl rfl (plan_Why_c _ ((s12.trans (sF12_0_0_1.trans (sF12_1_0_2.trans (sF18_3.trans (s19.trans (sF19_0_0_4.trans (sF19_0_1_5.trans (sF19_0_2_6.trans (sb3_7.trans (sF25_8.trans (s26.trans (sF26_0_0_9.trans (sF26_0_1_10.trans (sF26_0_2_11.trans sb5_12)))))))))))))) _ _ hG1) _ r12.1 (fF12_0_0_1.mono (sF12_1_0_2.trans (sF18_3.trans (s19.trans (sF19_0_0_4.trans (sF19_0_1_5.trans (sF19_0_2_6.trans (sb3_7.trans (sF25_8.trans (s26.trans (sF26_0_0_9.trans (sF26_0_1_10.trans (sF26_0_2_11.trans sb5_12))))))))))))) _ r12.2 (fF12_1_0_2.mono (sF18_3.trans (s19.trans (sF19_0_0_4.trans (sF19_0_1_5.trans (sF19_0_2_6.trans (sb3_7.trans (sF25_8.trans (s26.trans (sF26_0_0_9.trans (sF26_0_1_10.trans (sF26_0_2_11.trans sb5_12)))))))))))) (4) (6) (by first | omega | (simp; done) | (simp; omega) | (simp at *; omega)) (by first | omega | (simp; done) | (simp; omega) | (simp at *; omega))) ?_
  intro v32 H32 L32 s32 q32
  rw [← er32] at q32
  obtain ⟨u32_0_0, c32_0_0, rfl, rfl, w32_0_0⟩ := q32
  obtain ⟨A32_0_0, p32_0_0, rfl, m32_0_0, n32_0_0⟩ := OwnS.shape w32_0_0
  refine R.mvE rfl (by conv => lhs; whnf) ?_
  refine R.ext rfl rfl rfl ?_
  refine R.ext rfl rfl rfl ?_
  refine R.asE rfl (by conv => lhs; whnf) ?_
  refine R.asE rfl (by conv => lhs; whnf) ?_
  refine TL.nil (Post.thnN ?_)
  refine T.seq ?_
  refine T.region ?_
  refine R.mvE rfl (by conv => lhs; whnf) ?_
  refine R.mvE rfl (by conv => lhs; whnf) ?_
  obtain ⟨r38, er38⟩ : ∃ r, r = (plan_Why_m r12.1 r12.2 4 7) := ⟨_, rfl⟩
  refine TL.call [] rfl rfl rfl (plan_Why_c _ ((s12.trans (sF12_0_0_1.trans (sF12_1_0_2.trans (sF18_3.trans (s19.trans (sF19_0_0_4.trans (sF19_0_1_5.trans (sF19_0_2_6.trans (sb3_7.trans (sF25_8.trans (s26.trans (sF26_0_0_9.trans (sF26_0_1_10.trans (sF26_0_2_11.trans (sb5_12.trans s32))))))))))))))) _ _ hG1) _ r12.1 (fF12_0_0_1.mono (sF12_1_0_2.trans (sF18_3.trans (s19.trans (sF19_0_0_4.trans (sF19_0_1_5.trans (sF19_0_2_6.trans (sb3_7.trans (sF25_8.trans (s26.trans (sF26_0_0_9.trans (sF26_0_1_10.trans (sF26_0_2_11.trans (sb5_12.trans s32)))))))))))))) _ r12.2 (fF12_1_0_2.mono (sF18_3.trans (s19.trans (sF19_0_0_4.trans (sF19_0_1_5.trans (sF19_0_2_6.trans (sb3_7.trans (sF25_8.trans (s26.trans (sF26_0_0_9.trans (sF26_0_1_10.trans (sF26_0_2_11.trans (sb5_12.trans s32))))))))))))) (4) (7) (by first | omega | (simp; done) | (simp; omega) | (simp at *; omega)) (by first | omega | (simp; done) | (simp; omega) | (simp at *; omega))) ?_
  intro v38 H38 L38 s38 q38
  rw [← er38] at q38
  obtain ⟨u38_0_0, c38_0_0, rfl, rfl, w38_0_0⟩ := q38
  obtain ⟨A38_0_0, p38_0_0, rfl, m38_0_0, n38_0_0⟩ := OwnS.shape w38_0_0
  refine R.mvE rfl (by conv => lhs; whnf) ?_
  refine R.ext rfl rfl rfl ?_
  refine R.ext rfl rfl rfl ?_
  refine R.asE rfl (by conv => lhs; whnf) ?_
  refine R.asE rfl (by conv => lhs; whnf) ?_
  refine TL.nil (Post.thnN ?_)
  refine T.seq ?_
  refine T.draw Tryd_mixed (by kernel_rfl) ?_
  refine Plan.v 0 [1, 2, 3, 4, 5, 6, 7, 8, 9, 10, 11, 12, 13, 14, 15, 16, 17, 18, 19, 20, 21, 22, 23, 24, 25, 26, 27, 28, 29, 30, 31, 32, 33, 34, 35, 36, 37, 38, 39, 40, 41, 42, 43, 44, 45, 46] (by kernel_rfl) (by kernel_rfl) (by kernel_rfl) (by kernel_rfl) rfl (fun _ _ h_ => R.mvE rfl (by conv => lhs; whnf) (TL.nil h_)) ?_
  refine Plan.v 1 [2, 3, 4, 5, 6, 7, 8, 9, 10, 11, 12, 13, 14, 15, 16, 17, 18, 19, 20, 21, 22, 23, 24, 25, 26, 27, 28, 29, 30, 31, 32, 33, 34, 35, 36, 37, 38, 39, 40, 41, 42, 43, 44, 45, 46] (by kernel_rfl) (by kernel_rfl) (by kernel_rfl) (by kernel_rfl) rfl (fun _ _ h_ => R.eql rfl rfl rfl (TL.nil h_)) ?_
  refine Plan.v 2 [3, 4, 5, 6, 7, 8, 9, 10, 11, 12, 13, 14, 15, 16, 17, 18, 19, 20, 21, 22, 23, 24, 25, 26, 27, 28, 29, 30, 31, 32, 33, 34, 35, 36, 37, 38, 39, 40, 41, 42, 43, 44, 45, 46] (by kernel_rfl) (by kernel_rfl) (by kernel_rfl) (by kernel_rfl) rfl (fun _ _ h_ => R.mvE rfl (by conv => lhs; whnf) (TL.nil h_)) ?_
  refine Plan.gsplitD 43 rfl (fun g43 => ?_) (fun g43 => ?_)
  · refine Plan.v 3 [4, 5, 6, 7, 8, 9, 10, 11, 12, 13, 14, 15, 16, 17, 18, 19, 20, 21, 22, 23, 24, 25, 26, 27, 28, 29, 30, 31, 32, 33, 34, 35, 36, 37, 38, 39, 40, 41, 42, 43, 44, 45, 46] (by kernel_rfl) (by kernel_rfl) (by kernel_rfl) (by kernel_rfl) rfl (fun _ _ h_ => R.mvE rfl (by conv => lhs; whnf) (TL.nil h_)) ?_
    refine Plan.v 4 [5, 6, 7, 8, 9, 10, 11, 12, 13, 14, 15, 16, 17, 18, 19, 20, 21, 22, 23, 24, 25, 26, 27, 28, 29, 30, 31, 32, 33, 34, 35, 36, 37, 38, 39, 40, 41, 42, 43, 44, 45, 46] (by kernel_rfl) (by kernel_rfl) (by kernel_rfl) (by kernel_rfl) rfl (fun _ _ h_ => R.eql rfl rfl rfl (TL.nil h_)) ?_
    refine Plan.v 5 [6, 7, 8, 9, 10, 11, 12, 13, 14, 15, 16, 17, 18, 19, 20, 21, 22, 23, 24, 25, 26, 27, 28, 29, 30, 31, 32, 33, 34, 35, 36, 37, 38, 39, 40, 41, 42, 43, 44, 45, 46] (by kernel_rfl) (by kernel_rfl) (by kernel_rfl) (by kernel_rfl) rfl (fun _ _ h_ => R.pkTE rfl rfl (by conv => lhs; whnf) (TL.nil h_)) ?_
    refine Plan.v 6 [7, 8, 9, 10, 11, 12, 13, 14, 15, 16, 17, 18, 19, 20, 21, 22, 23, 24, 25, 26, 27, 28, 29, 30, 31, 32, 33, 34, 35, 36, 37, 38, 39, 40, 41, 42, 43, 44, 45, 46] (by kernel_rfl) (by kernel_rfl) (by kernel_rfl) (by kernel_rfl) rfl (fun _ _ h_ => R.mvE rfl (by conv => lhs; whnf) (TL.nil h_)) ?_
    refine Plan.gsplitD 47 rfl (fun g47 => ?_) (fun g47 => ?_)
    · refine Plan.v 7 [8, 9, 10, 11, 12, 13, 14, 15, 16, 17, 18, 19, 20, 21, 22, 23, 24, 25, 26, 27, 28, 29, 30, 31, 32, 33, 34, 35, 36, 37, 38, 39, 40, 41, 42, 43, 44, 45, 46] (by kernel_rfl) (by kernel_rfl) (by kernel_rfl) (by kernel_rfl) rfl (fun _ _ h_ => R.mvE rfl (by conv => lhs; whnf) (TL.nil h_)) ?_
      refine Plan.v 8 [9, 10, 11, 12, 13, 14, 15, 16, 17, 18, 19, 20, 21, 22, 23, 24, 25, 26, 27, 28, 29, 30, 31, 32, 33, 34, 35, 36, 37, 38, 39, 40, 41, 42, 43, 44, 45, 46] (by kernel_rfl) (by kernel_rfl) (by kernel_rfl) (by kernel_rfl) rfl (fun _ _ h_ => R.eql rfl rfl rfl (TL.nil h_)) ?_
      refine Plan.v 9 [10, 11, 12, 13, 14, 15, 16, 17, 18, 19, 20, 21, 22, 23, 24, 25, 26, 27, 28, 29, 30, 31, 32, 33, 34, 35, 36, 37, 38, 39, 40, 41, 42, 43, 44, 45, 46] (by kernel_rfl) (by kernel_rfl) (by kernel_rfl) (by kernel_rfl) rfl (fun _ _ h_ => R.pkTE rfl rfl (by conv => lhs; whnf) (TL.nil h_)) ?_
      refine Plan.v 10 [11, 12, 13, 14, 15, 16, 17, 18, 19, 20, 21, 22, 23, 24, 25, 26, 27, 28, 29, 30, 31, 32, 33, 34, 35, 36, 37, 38, 39, 40, 41, 42, 43, 44, 45, 46] (by kernel_rfl) (by kernel_rfl) (by kernel_rfl) (by kernel_rfl) rfl (fun _ _ h_ => R.mvE rfl (by conv => lhs; whnf) (TL.nil h_)) ?_
      refine Plan.gsplitD 51 rfl (fun g51 => ?_) (fun g51 => ?_)
      · refine Plan.v 11 [12, 13, 14, 15, 16, 17, 18, 19, 20, 21, 22, 23, 24, 25, 26, 27, 28, 29, 30, 31, 32, 33, 34, 35, 36, 37, 38, 39, 40, 41, 42, 43, 44, 45, 46] (by kernel_rfl) (by kernel_rfl) (by kernel_rfl) (by kernel_rfl) rfl (fun _ _ h_ => R.mvE rfl (by conv => lhs; whnf) (TL.nil h_)) ?_
        refine Plan.v 12 [13, 14, 15, 16, 17, 18, 19, 20, 21, 22, 23, 24, 25, 26, 27, 28, 29, 30, 31, 32, 33, 34, 35, 36, 37, 38, 39, 40, 41, 42, 43, 44, 45, 46] (by kernel_rfl) (by kernel_rfl) (by kernel_rfl) (by kernel_rfl) rfl (fun _ _ h_ => R.eql rfl rfl rfl (TL.nil h_)) ?_
        refine Plan.v 13 [14, 15, 16, 17, 18, 19, 20, 21, 22, 23, 24, 25, 26, 27, 28, 29, 30, 31, 32, 33, 34, 35, 36, 37, 38, 39, 40, 41, 42, 43, 44, 45, 46] (by kernel_rfl) (by kernel_rfl) (by kernel_rfl) (by kernel_rfl) rfl (fun _ _ h_ => R.pkTE rfl rfl (by conv => lhs; whnf) (TL.nil h_)) ?_
        refine Plan.v 14 [15, 16, 17, 18, 19, 20, 21, 22, 23, 24, 25, 26, 27, 28, 29, 30, 31, 32, 33, 34, 35, 36, 37, 38, 39, 40, 41, 42, 43, 44, 45, 46] (by kernel_rfl) (by kernel_rfl) (by kernel_rfl) (by kernel_rfl) rfl (fun _ _ h_ => R.mvE rfl (by conv => lhs; whnf) (TL.nil h_)) ?_
        refine Plan.gsplitD 55 rfl (fun g55 => ?_) (fun g55 => ?_)
        · refine Plan.v 15 [16, 17, 18, 19, 20, 21, 22, 23, 24, 25, 26, 27, 28, 29, 30, 31, 32, 33, 34, 35, 36, 37, 38, 39, 40, 41, 42, 43, 44, 45, 46] (by kernel_rfl) (by kernel_rfl) (by kernel_rfl) (by kernel_rfl) rfl (fun _ _ h_ => R.fldA Tryd.underlying81 rfl Tryd.sizeOf23 (by decide) rfl rfl (TL.nil h_)) ?_
          refine Plan.v 16 [17, 18, 19, 20, 21, 22, 23, 24, 25, 26, 27, 28, 29, 30, 31, 32, 33, 34, 35, 36, 37, 38, 39, 40, 41, 42, 43, 44, 45, 46] (by kernel_rfl) (by kernel_rfl) (by kernel_rfl) (by kernel_rfl) rfl (fun _ _ h_ => R.ldH Tryd.isAgg23 rfl rfl ((sF25_8.trans (s26.trans (sF26_0_0_9.trans (sF26_0_1_10.trans (sF26_0_2_11.trans (sb5_12.trans (s32.trans s38))))))) _ _ hb3_7) rfl (TL.nil h_)) ?_
          refine Plan.s1 17 [18, 19, 20, 21, 22, 23, 24, 25, 26, 27, 28, 29, 30, 31, 32, 33, 34, 35, 36, 37, 38, 39, 40, 41, 42, 43, 44, 45, 46] (by kernel_rfl) (by kernel_rfl) rfl ?_
          refine R.bsN [.int .i64 4, .int .i64 5, .int .i64 6] rfl Tryd.underlying23 Tryd.sizeOf3 Tryd.zeroValue3 rfl rfl rfl rfl rfl rfl ?_
          intro b58
          have w58 : OwnS (intE .i64) 3 H38 (.slice (some ⟨b58, 0, none⟩) 3 3) [4, 5, 6] [(b58, .cells #[.int .i64 4, .int .i64 5, .int .i64 6] 3)] := OwnS.lit (xs := [4, 5, 6]) (cellsOf_cons (a := [.int .i64 4]) rfl (cellsOf_cons (a := [.int .i64 5]) rfl (cellsOf_cons (a := [.int .i64 6]) rfl cellsOf_nil))) (by show 3 ≤ maxLen; decide)
          refine TL.nil (Plan.e1 (HLe.refl _) ?_)
          refine Plan.s1 18 [19, 20, 21, 22, 23, 24, 25, 26, 27, 28, 29, 30, 31, 32, 33, 34, 35, 36, 37, 38, 39, 40, 41, 42, 43, 44, 45, 46] (by kernel_rfl) (by kernel_rfl) rfl ?_
          refine TL.shut .hd ?_
          intro HF58_14 sF58_14 qF58_14
          have fF58_14 := OwnS.read w58 sF58_14 qF58_14
          refine R.callv rfl rfl rfl (slices_Equal_int_d _ _ r19.1.1 (fF19_0_0_4.mono (sF19_0_1_5.trans (sF19_0_2_6.trans (sb3_7.trans (sF25_8.trans (s26.trans (sF26_0_0_9.trans (sF26_0_1_10.trans (sF26_0_2_11.trans (sb5_12.trans (s32.trans (s38.trans sF58_14)))))))))))) _ ([4, 5, 6]) fF58_14) ?_
          refine TL.nil (Plan.e1 (sF58_14) ?_)
          refine Plan.v 19 [20, 21, 22, 23, 24, 25, 26, 27, 28, 29, 30, 31, 32, 33, 34, 35, 36, 37, 38, 39, 40, 41, 42, 43, 44, 45, 46] (by kernel_rfl) (by kernel_rfl) (by kernel_rfl) (by kernel_rfl) rfl (fun _ _ h_ => R.pkTE rfl rfl (by conv => lhs; whnf) (TL.nil h_)) ?_
          refine Plan.v 20 [21, 22, 23, 24, 25, 26, 27, 28, 29, 30, 31, 32, 33, 34, 35, 36, 37, 38, 39, 40, 41, 42, 43, 44, 45, 46] (by kernel_rfl) (by kernel_rfl) (by kernel_rfl) (by kernel_rfl) rfl (fun _ _ h_ => R.mvE rfl (by conv => lhs; whnf) (TL.nil h_)) ?_
          refine Plan.gsplitD 61 rfl (fun g61 => ?_) (fun g61 => ?_)
          · refine Plan.v 21 [22, 23, 24, 25, 26, 27, 28, 29, 30, 31, 32, 33, 34, 35, 36, 37, 38, 39, 40, 41, 42, 43, 44, 45, 46] (by kernel_rfl) (by kernel_rfl) (by kernel_rfl) (by kernel_rfl) rfl (fun _ _ h_ => R.fldA Tryd.underlying81 rfl Tryd.sizeOf60 (by decide) rfl rfl (TL.nil h_)) ?_
            refine Plan.v 22 [23, 24, 25, 26, 27, 28, 29, 30, 31, 32, 33, 34, 35, 36, 37, 38, 39, 40, 41, 42, 43, 44, 45, 46] (by kernel_rfl) (by kernel_rfl) (by kernel_rfl) (by kernel_rfl) rfl (fun _ _ h_ => R.ldH Tryd.isAgg60 rfl rfl ((sF25_8.trans (s26.trans (sF26_0_0_9.trans (sF26_0_1_10.trans (sF26_0_2_11.trans (sb5_12.trans (s32.trans (s38.trans sF58_14)))))))) _ _ hb3_7) rfl (TL.nil h_)) ?_
            refine Plan.v 23 [24, 25, 26, 27, 28, 29, 30, 31, 32, 33, 34, 35, 36, 37, 38, 39, 40, 41, 42, 43, 44, 45, 46] (by kernel_rfl) (by kernel_rfl) (by kernel_rfl) (by kernel_rfl) rfl (fun _ _ h_ => R.mvE rfl (by conv => lhs; whnf) (TL.nil h_)) ?_
            have z65 := RdS.drop (fF12_1_0_2.mono (sF18_3.trans (s19.trans (sF19_0_0_4.trans (sF19_0_1_5.trans (sF19_0_2_6.trans (sb3_7.trans (sF25_8.trans (s26.trans (sF26_0_0_9.trans (sF26_0_1_10.trans (sF26_0_2_11.trans (sb5_12.trans (s32.trans (s38.trans sF58_14))))))))))))))) (i := 2) (by omega) (by omega)
            obtain ⟨x65, e65⟩ : ∃ x, x = (r12.2.drop 2) := ⟨_, rfl⟩
            rw [← e65] at z65
            obtain ⟨A65, p65, q65, m65, n65, r65⟩ := RdS.shape z65
            have t65 : x65.length ≤ r12.2.length := by rw [e65]; simp; try omega
            refine Plan.v 24 [25, 26, 27, 28, 29, 30, 31, 32, 33, 34, 35, 36, 37, 38, 39, 40, 41, 42, 43, 44, 45, 46] (by kernel_rfl) (by kernel_rfl) (by kernel_rfl) (by kernel_rfl) rfl (fun _ _ h_ => R.sL Tryd.underlying60 Tryd.sizeOf73 rfl rfl rfl (by omega) (by omega)  (TL.nil h_)) ?_
            refine Plan.set 65 (.slice A65 x65.length p65) (by first | exact q65 | (rw [← q65]; simp; done) | (rw [← q65]; rfl)) ?_
            refine Plan.v 25 [26, 27, 28, 29, 30, 31, 32, 33, 34, 35, 36, 37, 38, 39, 40, 41, 42, 43, 44, 45, 46] (by kernel_rfl) (by kernel_rfl) (by kernel_rfl) (by kernel_rfl) rfl (fun _ _ h_ => R.callv rfl rfl rfl (slices_Equal_Held_d _ _ r19.1.2.1 (fF19_0_1_5.mono (sF19_0_2_6.trans (sb3_7.trans (sF25_8.trans (s26.trans (sF26_0_0_9.trans (sF26_0_1_10.trans (sF26_0_2_11.trans (sb5_12.trans (s32.trans (s38.trans sF58_14))))))))))) _ x65 r65) (TL.nil h_)) ?_
            refine Plan.v 26 [27, 28, 29, 30, 31, 32, 33, 34, 35, 36, 37, 38, 39, 40, 41, 42, 43, 44, 45, 46] (by kernel_rfl) (by kernel_rfl) (by kernel_rfl) (by kernel_rfl) rfl (fun _ _ h_ => R.pkTE rfl rfl (by conv => lhs; whnf) (TL.nil h_)) ?_
            refine Plan.v 27 [28, 29, 30, 31, 32, 33, 34, 35, 36, 37, 38, 39, 40, 41, 42, 43, 44, 45, 46] (by kernel_rfl) (by kernel_rfl) (by kernel_rfl) (by kernel_rfl) rfl (fun _ _ h_ => R.mvE rfl (by conv => lhs; whnf) (TL.nil h_)) ?_
            refine Plan.gsplitD 68 rfl (fun g68 => ?_) (fun g68 => ?_)
            · refine Plan.v 28 [29, 30, 31, 32, 33, 34, 35, 36, 37, 38, 39, 40, 41, 42, 43, 44, 45, 46] (by kernel_rfl) (by kernel_rfl) (by kernel_rfl) (by kernel_rfl) rfl (fun _ _ h_ => R.fldA Tryd.underlying81 rfl Tryd.sizeOf60 (by decide) rfl rfl (TL.nil h_)) ?_
              refine Plan.v 29 [30, 31, 32, 33, 34, 35, 36, 37, 38, 39, 40, 41, 42, 43, 44, 45, 46] (by kernel_rfl) (by kernel_rfl) (by kernel_rfl) (by kernel_rfl) rfl (fun _ _ h_ => R.ldH Tryd.isAgg60 rfl rfl ((sF25_8.trans (s26.trans (sF26_0_0_9.trans (sF26_0_1_10.trans (sF26_0_2_11.trans (sb5_12.trans (s32.trans (s38.trans sF58_14)))))))) _ _ hb3_7) rfl (TL.nil h_)) ?_
              refine Plan.v 30 [31, 32, 33, 34, 35, 36, 37, 38, 39, 40, 41, 42, 43, 44, 45, 46] (by kernel_rfl) (by kernel_rfl) (by kernel_rfl) (by kernel_rfl) rfl (fun _ _ h_ => R.mvE rfl (by conv => lhs; whnf) (TL.nil h_)) ?_
              have z72 := RdS.drop (fF12_1_0_2.mono (sF18_3.trans (s19.trans (sF19_0_0_4.trans (sF19_0_1_5.trans (sF19_0_2_6.trans (sb3_7.trans (sF25_8.trans (s26.trans (sF26_0_0_9.trans (sF26_0_1_10.trans (sF26_0_2_11.trans (sb5_12.trans (s32.trans (s38.trans sF58_14))))))))))))))) (i := 3) (by omega) (by omega)
              obtain ⟨x72, e72⟩ : ∃ x, x = (r12.2.drop 3) := ⟨_, rfl⟩
              rw [← e72] at z72
              obtain ⟨A72, p72, q72, m72, n72, r72⟩ := RdS.shape z72
              have t72 : x72.length ≤ r12.2.length := by rw [e72]; simp; try omega
              refine Plan.v 31 [32, 33, 34, 35, 36, 37, 38, 39, 40, 41, 42, 43, 44, 45, 46] (by kernel_rfl) (by kernel_rfl) (by kernel_rfl) (by kernel_rfl) rfl (fun _ _ h_ => R.sL Tryd.underlying60 Tryd.sizeOf73 rfl rfl rfl (by omega) (by omega)  (TL.nil h_)) ?_
              refine Plan.set 72 (.slice A72 x72.length p72) (by first | exact q72 | (rw [← q72]; simp; done) | (rw [← q72]; rfl)) ?_
              refine Plan.v 32 [33, 34, 35, 36, 37, 38, 39, 40, 41, 42, 43, 44, 45, 46] (by kernel_rfl) (by kernel_rfl) (by kernel_rfl) (by kernel_rfl) rfl (fun _ _ h_ => R.callv rfl rfl rfl (slices_Equal_Held_d _ _ r19.1.2.2 (fF19_0_2_6.mono (sb3_7.trans (sF25_8.trans (s26.trans (sF26_0_0_9.trans (sF26_0_1_10.trans (sF26_0_2_11.trans (sb5_12.trans (s32.trans (s38.trans sF58_14)))))))))) _ x72 r72) (TL.nil h_)) ?_
              refine Plan.v 33 [34, 35, 36, 37, 38, 39, 40, 41, 42, 43, 44, 45, 46] (by kernel_rfl) (by kernel_rfl) (by kernel_rfl) (by kernel_rfl) rfl (fun _ _ h_ => R.pkTE rfl rfl (by conv => lhs; whnf) (TL.nil h_)) ?_
              refine Plan.v 34 [35, 36, 37, 38, 39, 40, 41, 42, 43, 44, 45, 46] (by kernel_rfl) (by kernel_rfl) (by kernel_rfl) (by kernel_rfl) rfl (fun _ _ h_ => R.mvE rfl (by conv => lhs; whnf) (TL.nil h_)) ?_
              refine Plan.gsplitD 75 rfl (fun g75 => ?_) (fun g75 => ?_)
              · refine Plan.v 35 [36, 37, 38, 39, 40, 41, 42, 43, 44, 45, 46] (by kernel_rfl) (by kernel_rfl) (by kernel_rfl) (by kernel_rfl) rfl (fun _ _ h_ => R.fldA Tryd.underlying81 rfl Tryd.sizeOf23 (by decide) rfl rfl (TL.nil h_)) ?_
                refine Plan.v 36 [37, 38, 39, 40, 41, 42, 43, 44, 45, 46] (by kernel_rfl) (by kernel_rfl) (by kernel_rfl) (by kernel_rfl) rfl (fun _ _ h_ => R.ldH Tryd.isAgg23 rfl rfl ((s32.trans (s38.trans sF58_14)) _ _ hb5_12) rfl (TL.nil h_)) ?_
                refine Plan.s1 37 [38, 39, 40, 41, 42, 43, 44, 45, 46] (by kernel_rfl) (by kernel_rfl) rfl ?_
                refine R.bsN [.int .i64 3, .int .i64 8] rfl Tryd.underlying23 Tryd.sizeOf3 Tryd.zeroValue3 rfl rfl rfl rfl rfl rfl ?_
                intro b78
                have w78 : OwnS (intE .i64) 3 HF58_14 (.slice (some ⟨b78, 0, none⟩) 2 2) [3, 8] [(b78, .cells #[.int .i64 3, .int .i64 8] 3)] := OwnS.lit (xs := [3, 8]) (cellsOf_cons (a := [.int .i64 3]) rfl (cellsOf_cons (a := [.int .i64 8]) rfl cellsOf_nil)) (by show 2 ≤ maxLen; decide)
                refine TL.nil (Plan.e1 (HLe.refl _) ?_)
                refine Plan.s1 38 [39, 40, 41, 42, 43, 44, 45, 46] (by kernel_rfl) (by kernel_rfl) rfl ?_
                refine TL.shut .hd ?_
                intro HF78_16 sF78_16 qF78_16
                have fF78_16 := OwnS.read w78 sF78_16 qF78_16
                refine R.callv rfl rfl rfl (slices_Equal_int_d _ _ r26.1.1 (fF26_0_0_9.mono (sF26_0_1_10.trans (sF26_0_2_11.trans (sb5_12.trans (s32.trans (s38.trans (sF58_14.trans sF78_16))))))) _ ([3, 8]) fF78_16) ?_
                refine TL.nil (Plan.e1 (sF78_16) ?_)
                refine Plan.v 39 [40, 41, 42, 43, 44, 45, 46] (by kernel_rfl) (by kernel_rfl) (by kernel_rfl) (by kernel_rfl) rfl (fun _ _ h_ => R.pkTE rfl rfl (by conv => lhs; whnf) (TL.nil h_)) ?_
                refine Plan.v 40 [41, 42, 43, 44, 45, 46] (by kernel_rfl) (by kernel_rfl) (by kernel_rfl) (by kernel_rfl) rfl (fun _ _ h_ => R.mvE rfl (by conv => lhs; whnf) (TL.nil h_)) ?_
                refine Plan.gsplitD 81 rfl (fun g81 => ?_) (fun g81 => ?_)
                · refine Plan.v 41 [42, 43, 44, 45, 46] (by kernel_rfl) (by kernel_rfl) (by kernel_rfl) (by kernel_rfl) rfl (fun _ _ h_ => R.mvE rfl (by conv => lhs; whnf) (TL.nil h_)) ?_
                  refine Plan.v 42 [43, 44, 45, 46] (by kernel_rfl) (by kernel_rfl) (by kernel_rfl) (by kernel_rfl) rfl (fun _ _ h_ => R.mvE rfl (by conv => lhs; whnf) (TL.nil h_)) ?_
                  have z84 := RdS.takeC (fF12_1_0_2.mono (sF18_3.trans (s19.trans (sF19_0_0_4.trans (sF19_0_1_5.trans (sF19_0_2_6.trans (sb3_7.trans (sF25_8.trans (s26.trans (sF26_0_0_9.trans (sF26_0_1_10.trans (sF26_0_2_11.trans (sb5_12.trans (s32.trans (s38.trans (sF58_14.trans sF78_16)))))))))))))))) (i := 2) (by omega) (by omega)
                  obtain ⟨x84, e84⟩ : ∃ x, x = (r12.2.take 2) := ⟨_, rfl⟩
                  rw [← e84] at z84
                  obtain ⟨A84, p84, q84, m84, n84, r84⟩ := RdS.shape z84
                  have t84 : x84.length ≤ r12.2.length := by rw [e84]; simp; try omega
                  have t84_ : x84.length = min 2 r12.2.length := by rw [e84]; simp
                  refine Plan.v 43 [44, 45, 46] (by kernel_rfl) (by kernel_rfl) (by kernel_rfl) (by kernel_rfl) rfl (fun _ _ h_ => R.sH Tryd.underlying60 Tryd.sizeOf73 rfl rfl rfl (by omega) (by omega)  (TL.nil h_)) ?_
                  refine Plan.set 84 (.slice A84 x84.length p84) (by first | exact q84 | (rw [← q84]; simp; done) | (rw [← q84]; rfl)) ?_
                  refine Plan.s1 44 [45, 46] (by kernel_rfl) (by kernel_rfl) rfl ?_
                  refine TL.shut (.tl .hd) ?_
                  intro HF32_0_0_18 sF32_0_0_18 qF32_0_0_18
                  have fF32_0_0_18 := OwnS.read (OwnS.mono w32_0_0 (s38.trans (sF58_14.trans sF78_16))) sF32_0_0_18 qF32_0_0_18
                  refine R.callv rfl rfl rfl (slices_Equal_Held_d _ _ r32.1 fF32_0_0_18 _ x84 (r84.mono sF32_0_0_18)) ?_
                  refine TL.nil (Plan.e1 (sF32_0_0_18) ?_)
                  refine Plan.v 45 [46] (by kernel_rfl) (by kernel_rfl) (by kernel_rfl) (by kernel_rfl) rfl (fun _ _ h_ => R.pkTE rfl rfl (by conv => lhs; whnf) (TL.nil h_)) ?_
                  refine Plan.v 46 [] (by kernel_rfl) (by kernel_rfl) (by kernel_rfl) (by kernel_rfl) rfl (fun _ _ h_ => R.asE rfl (by conv => lhs; whnf) (TL.nil h_)) ?_
                  refine Plan.done (Post.thnN ?_)
                  refine T.has Has.nil ?_
                  refine T.ret ?_
                  have hM : windroselaw20_wakes_m = (decide (r32.1 = x84)) := by subst e84; subst e72; subst e65; subst er38; subst er32; subst er26; subst er19; subst er12; rw [windroselaw20_wakes_m, LR.seq_go, LR.seq_go, LR.seq_go, LR.seq_go, LR.seq_go, if_pos g43, if_pos g47, if_pos g51, if_pos g55, if_pos g61, if_pos g68, if_pos g75, if_pos g81]
                  exact fin1L (v := .bool (decide (r32.1 = x84))) [] rfl rfl (List.Sublist.refl _) ⟨rfl, by first | rw [hM] | rfl⟩
                · refine Plan.v 41 [42, 43, 44, 45, 46] (by kernel_rfl) (by kernel_rfl) (by kernel_rfl) (by kernel_rfl) rfl (fun _ _ h_ => TL.off rfl rfl rfl (TL.nil h_)) ?_
                  refine Plan.v 42 [43, 44, 45, 46] (by kernel_rfl) (by kernel_rfl) (by kernel_rfl) (by kernel_rfl) rfl (fun _ _ h_ => TL.off rfl rfl rfl (TL.nil h_)) ?_
                  refine Plan.v 43 [44, 45, 46] (by kernel_rfl) (by kernel_rfl) (by kernel_rfl) (by kernel_rfl) rfl (fun _ _ h_ => TL.off rfl rfl rfl (TL.nil h_)) ?_
                  refine Plan.v 44 [45, 46] (by kernel_rfl) (by kernel_rfl) (by kernel_rfl) (by kernel_rfl) rfl (fun _ _ h_ => TL.off rfl rfl rfl (TL.nil h_)) ?_
                  refine Plan.v 45 [46] (by kernel_rfl) (by kernel_rfl) (by kernel_rfl) (by kernel_rfl) rfl (fun _ _ h_ => R.pkFE rfl rfl (by conv => lhs; whnf) (TL.nil h_)) ?_
                  refine Plan.v 46 [] (by kernel_rfl) (by kernel_rfl) (by kernel_rfl) (by kernel_rfl) rfl (fun _ _ h_ => R.asE rfl (by conv => lhs; whnf) (TL.nil h_)) ?_
                  refine Plan.done (Post.thnN ?_)
                  refine T.has Has.nil ?_
                  refine T.ret ?_
                  have hM : windroselaw20_wakes_m = false := by subst e72; subst e65; subst er38; subst er32; subst er26; subst er19; subst er12; rw [windroselaw20_wakes_m, LR.seq_go, LR.seq_go, LR.seq_go, LR.seq_go, LR.seq_go, if_pos g43, if_pos g47, if_pos g51, if_pos g55, if_pos g61, if_pos g68, if_pos g75, if_neg g81]
                  exact fin1L (v := .bool false) [] rfl rfl (List.Sublist.refl _) ⟨rfl, by first | rw [hM] | rfl⟩
              · refine Plan.v 35 [36, 37, 38, 39, 40, 41, 42, 43, 44, 45, 46] (by kernel_rfl) (by kernel_rfl) (by kernel_rfl) (by kernel_rfl) rfl (fun _ _ h_ => TL.off rfl rfl rfl (TL.nil h_)) ?_
                refine Plan.v 36 [37, 38, 39, 40, 41, 42, 43, 44, 45, 46] (by kernel_rfl) (by kernel_rfl) (by kernel_rfl) (by kernel_rfl) rfl (fun _ _ h_ => TL.off rfl rfl rfl (TL.nil h_)) ?_
                refine Plan.v 37 [38, 39, 40, 41, 42, 43, 44, 45, 46] (by kernel_rfl) (by kernel_rfl) (by kernel_rfl) (by kernel_rfl) rfl (fun _ _ h_ => TL.off rfl rfl rfl (TL.nil h_)) ?_
                refine Plan.v 38 [39, 40, 41, 42, 43, 44, 45, 46] (by kernel_rfl) (by kernel_rfl) (by kernel_rfl) (by kernel_rfl) rfl (fun _ _ h_ => TL.off rfl rfl rfl (TL.nil h_)) ?_
                refine Plan.v 39 [40, 41, 42, 43, 44, 45, 46] (by kernel_rfl) (by kernel_rfl) (by kernel_rfl) (by kernel_rfl) rfl (fun _ _ h_ => R.pkFE rfl rfl (by conv => lhs; whnf) (TL.nil h_)) ?_
                refine Plan.v 40 [41, 42, 43, 44, 45, 46] (by kernel_rfl) (by kernel_rfl) (by kernel_rfl) (by kernel_rfl) rfl (fun _ _ h_ => R.mvE rfl (by conv => lhs; whnf) (TL.nil h_)) ?_
                refine Plan.v 41 [42, 43, 44, 45, 46] (by kernel_rfl) (by kernel_rfl) (by kernel_rfl) (by kernel_rfl) rfl (fun _ _ h_ => TL.off rfl rfl rfl (TL.nil h_)) ?_
                refine Plan.v 42 [43, 44, 45, 46] (by kernel_rfl) (by kernel_rfl) (by kernel_rfl) (by kernel_rfl) rfl (fun _ _ h_ => TL.off rfl rfl rfl (TL.nil h_)) ?_
                refine Plan.v 43 [44, 45, 46] (by kernel_rfl) (by kernel_rfl) (by kernel_rfl) (by kernel_rfl) rfl (fun _ _ h_ => TL.off rfl rfl rfl (TL.nil h_)) ?_
                refine Plan.v 44 [45, 46] (by kernel_rfl) (by kernel_rfl) (by kernel_rfl) (by kernel_rfl) rfl (fun _ _ h_ => TL.off rfl rfl rfl (TL.nil h_)) ?_
                refine Plan.v 45 [46] (by kernel_rfl) (by kernel_rfl) (by kernel_rfl) (by kernel_rfl) rfl (fun _ _ h_ => R.pkFE rfl rfl (by conv => lhs; whnf) (TL.nil h_)) ?_
                refine Plan.v 46 [] (by kernel_rfl) (by kernel_rfl) (by kernel_rfl) (by kernel_rfl) rfl (fun _ _ h_ => R.asE rfl (by conv => lhs; whnf) (TL.nil h_)) ?_
                refine Plan.done (Post.thnN ?_)
                refine T.has Has.nil ?_
                refine T.ret ?_
                have hM : windroselaw20_wakes_m = false := by subst e72; subst e65; subst er38; subst er32; subst er26; subst er19; subst er12; rw [windroselaw20_wakes_m, LR.seq_go, LR.seq_go, LR.seq_go, LR.seq_go, LR.seq_go, if_pos g43, if_pos g47, if_pos g51, if_pos g55, if_pos g61, if_pos g68, if_neg g75]
                exact fin1L (v := .bool false) [] rfl rfl (List.Sublist.refl _) ⟨rfl, by first | rw [hM] | rfl⟩
            · refine Plan.v 28 [29, 30, 31, 32, 33, 34, 35, 36, 37, 38, 39, 40, 41, 42, 43, 44, 45, 46] (by kernel_rfl) (by kernel_rfl) (by kernel_rfl) (by kernel_rfl) rfl (fun _ _ h_ => TL.off rfl rfl rfl (TL.nil h_)) ?_
              refine Plan.v 29 [30, 31, 32, 33, 34, 35, 36, 37, 38, 39, 40, 41, 42, 43, 44, 45, 46] (by kernel_rfl) (by kernel_rfl) (by kernel_rfl) (by kernel_rfl) rfl (fun _ _ h_ => TL.off rfl rfl rfl (TL.nil h_)) ?_
              refine Plan.v 30 [31, 32, 33, 34, 35, 36, 37, 38, 39, 40, 41, 42, 43, 44, 45, 46] (by kernel_rfl) (by kernel_rfl) (by kernel_rfl) (by kernel_rfl) rfl (fun _ _ h_ => TL.off rfl rfl rfl (TL.nil h_)) ?_
              refine Plan.v 31 [32, 33, 34, 35, 36, 37, 38, 39, 40, 41, 42, 43, 44, 45, 46] (by kernel_rfl) (by kernel_rfl) (by kernel_rfl) (by kernel_rfl) rfl (fun _ _ h_ => TL.off rfl rfl rfl (TL.nil h_)) ?_
              refine Plan.v 32 [33, 34, 35, 36, 37, 38, 39, 40, 41, 42, 43, 44, 45, 46] (by kernel_rfl) (by kernel_rfl) (by kernel_rfl) (by kernel_rfl) rfl (fun _ _ h_ => TL.off rfl rfl rfl (TL.nil h_)) ?_
              refine Plan.v 33 [34, 35, 36, 37, 38, 39, 40, 41, 42, 43, 44, 45, 46] (by kernel_rfl) (by kernel_rfl) (by kernel_rfl) (by kernel_rfl) rfl (fun _ _ h_ => R.pkFE rfl rfl (by conv => lhs; whnf) (TL.nil h_)) ?_
              refine Plan.v 34 [35, 36, 37, 38, 39, 40, 41, 42, 43, 44, 45, 46] (by kernel_rfl) (by kernel_rfl) (by kernel_rfl) (by kernel_rfl) rfl (fun _ _ h_ => R.mvE rfl (by conv => lhs; whnf) (TL.nil h_)) ?_
              refine Plan.v 35 [36, 37, 38, 39, 40, 41, 42, 43, 44, 45, 46] (by kernel_rfl) (by kernel_rfl) (by kernel_rfl) (by kernel_rfl) rfl (fun _ _ h_ => TL.off rfl rfl rfl (TL.nil h_)) ?_
              refine Plan.v 36 [37, 38, 39, 40, 41, 42, 43, 44, 45, 46] (by kernel_rfl) (by kernel_rfl) (by kernel_rfl) (by kernel_rfl) rfl (fun _ _ h_ => TL.off rfl rfl rfl (TL.nil h_)) ?_
              refine Plan.v 37 [38, 39, 40, 41, 42, 43, 44, 45, 46] (by kernel_rfl) (by kernel_rfl) (by kernel_rfl) (by kernel_rfl) rfl (fun _ _ h_ => TL.off rfl rfl rfl (TL.nil h_)) ?_
              refine Plan.v 38 [39, 40, 41, 42, 43, 44, 45, 46] (by kernel_rfl) (by kernel_rfl) (by kernel_rfl) (by kernel_rfl) rfl (fun _ _ h_ => TL.off rfl rfl rfl (TL.nil h_)) ?_
              refine Plan.v 39 [40, 41, 42, 43, 44, 45, 46] (by kernel_rfl) (by kernel_rfl) (by kernel_rfl) (by kernel_rfl) rfl (fun _ _ h_ => R.pkFE rfl rfl (by conv => lhs; whnf) (TL.nil h_)) ?_
              refine Plan.v 40 [41, 42, 43, 44, 45, 46] (by kernel_rfl) (by kernel_rfl) (by kernel_rfl) (by kernel_rfl) rfl (fun _ _ h_ => R.mvE rfl (by conv => lhs; whnf) (TL.nil h_)) ?_
              refine Plan.v 41 [42, 43, 44, 45, 46] (by kernel_rfl) (by kernel_rfl) (by kernel_rfl) (by kernel_rfl) rfl (fun _ _ h_ => TL.off rfl rfl rfl (TL.nil h_)) ?_
              refine Plan.v 42 [43, 44, 45, 46] (by kernel_rfl) (by kernel_rfl) (by kernel_rfl) (by kernel_rfl) rfl (fun _ _ h_ => TL.off rfl rfl rfl (TL.nil h_)) ?_
              refine Plan.v 43 [44, 45, 46] (by kernel_rfl) (by kernel_rfl) (by kernel_rfl) (by kernel_rfl) rfl (fun _ _ h_ => TL.off rfl rfl rfl (TL.nil h_)) ?_
              refine Plan.v 44 [45, 46] (by kernel_rfl) (by kernel_rfl) (by kernel_rfl) (by kernel_rfl) rfl (fun _ _ h_ => TL.off rfl rfl rfl (TL.nil h_)) ?_
              refine Plan.v 45 [46] (by kernel_rfl) (by kernel_rfl) (by kernel_rfl) (by kernel_rfl) rfl (fun _ _ h_ => R.pkFE rfl rfl (by conv => lhs; whnf) (TL.nil h_)) ?_
              refine Plan.v 46 [] (by kernel_rfl) (by kernel_rfl) (by kernel_rfl) (by kernel_rfl) rfl (fun _ _ h_ => R.asE rfl (by conv => lhs; whnf) (TL.nil h_)) ?_
              refine Plan.done (Post.thnN ?_)
              refine T.has Has.nil ?_
              refine T.ret ?_
              have hM : windroselaw20_wakes_m = false := by subst e65; subst er38; subst er32; subst er26; subst er19; subst er12; rw [windroselaw20_wakes_m, LR.seq_go, LR.seq_go, LR.seq_go, LR.seq_go, LR.seq_go, if_pos g43, if_pos g47, if_pos g51, if_pos g55, if_pos g61, if_neg g68]
              exact fin1L (v := .bool false) [] rfl rfl (List.Sublist.refl _) ⟨rfl, by first | rw [hM] | rfl⟩
          · refine Plan.v 21 [22, 23, 24, 25, 26, 27, 28, 29, 30, 31, 32, 33, 34, 35, 36, 37, 38, 39, 40, 41, 42, 43, 44, 45, 46] (by kernel_rfl) (by kernel_rfl) (by kernel_rfl) (by kernel_rfl) rfl (fun _ _ h_ => TL.off rfl rfl rfl (TL.nil h_)) ?_
            refine Plan.v 22 [23, 24, 25, 26, 27, 28, 29, 30, 31, 32, 33, 34, 35, 36, 37, 38, 39, 40, 41, 42, 43, 44, 45, 46] (by kernel_rfl) (by kernel_rfl) (by kernel_rfl) (by kernel_rfl) rfl (fun _ _ h_ => TL.off rfl rfl rfl (TL.nil h_)) ?_
            refine Plan.v 23 [24, 25, 26, 27, 28, 29, 30, 31, 32, 33, 34, 35, 36, 37, 38, 39, 40, 41, 42, 43, 44, 45, 46] (by kernel_rfl) (by kernel_rfl) (by kernel_rfl) (by kernel_rfl) rfl (fun _ _ h_ => TL.off rfl rfl rfl (TL.nil h_)) ?_
            refine Plan.v 24 [25, 26, 27, 28, 29, 30, 31, 32, 33, 34, 35, 36, 37, 38, 39, 40, 41, 42, 43, 44, 45, 46] (by kernel_rfl) (by kernel_rfl) (by kernel_rfl) (by kernel_rfl) rfl (fun _ _ h_ => TL.off rfl rfl rfl (TL.nil h_)) ?_
            refine Plan.v 25 [26, 27, 28, 29, 30, 31, 32, 33, 34, 35, 36, 37, 38, 39, 40, 41, 42, 43, 44, 45, 46] (by kernel_rfl) (by kernel_rfl) (by kernel_rfl) (by kernel_rfl) rfl (fun _ _ h_ => TL.off rfl rfl rfl (TL.nil h_)) ?_
            refine Plan.v 26 [27, 28, 29, 30, 31, 32, 33, 34, 35, 36, 37, 38, 39, 40, 41, 42, 43, 44, 45, 46] (by kernel_rfl) (by kernel_rfl) (by kernel_rfl) (by kernel_rfl) rfl (fun _ _ h_ => R.pkFE rfl rfl (by conv => lhs; whnf) (TL.nil h_)) ?_
            refine Plan.v 27 [28, 29, 30, 31, 32, 33, 34, 35, 36, 37, 38, 39, 40, 41, 42, 43, 44, 45, 46] (by kernel_rfl) (by kernel_rfl) (by kernel_rfl) (by kernel_rfl) rfl (fun _ _ h_ => R.mvE rfl (by conv => lhs; whnf) (TL.nil h_)) ?_
            refine Plan.v 28 [29, 30, 31, 32, 33, 34, 35, 36, 37, 38, 39, 40, 41, 42, 43, 44, 45, 46] (by kernel_rfl) (by kernel_rfl) (by kernel_rfl) (by kernel_rfl) rfl (fun _ _ h_ => TL.off rfl rfl rfl (TL.nil h_)) ?_
            refine Plan.v 29 [30, 31, 32, 33, 34, 35, 36, 37, 38, 39, 40, 41, 42, 43, 44, 45, 46] (by kernel_rfl) (by kernel_rfl) (by kernel_rfl) (by kernel_rfl) rfl (fun _ _ h_ => TL.off rfl rfl rfl (TL.nil h_)) ?_
            refine Plan.v 30 [31, 32, 33, 34, 35, 36, 37, 38, 39, 40, 41, 42, 43, 44, 45, 46] (by kernel_rfl) (by kernel_rfl) (by kernel_rfl) (by kernel_rfl) rfl (fun _ _ h_ => TL.off rfl rfl rfl (TL.nil h_)) ?_
            refine Plan.v 31 [32, 33, 34, 35, 36, 37, 38, 39, 40, 41, 42, 43, 44, 45, 46] (by kernel_rfl) (by kernel_rfl) (by kernel_rfl) (by kernel_rfl) rfl (fun _ _ h_ => TL.off rfl rfl rfl (TL.nil h_)) ?_
            refine Plan.v 32 [33, 34, 35, 36, 37, 38, 39, 40, 41, 42, 43, 44, 45, 46] (by kernel_rfl) (by kernel_rfl) (by kernel_rfl) (by kernel_rfl) rfl (fun _ _ h_ => TL.off rfl rfl rfl (TL.nil h_)) ?_
            refine Plan.v 33 [34, 35, 36, 37, 38, 39, 40, 41, 42, 43, 44, 45, 46] (by kernel_rfl) (by kernel_rfl) (by kernel_rfl) (by kernel_rfl) rfl (fun _ _ h_ => R.pkFE rfl rfl (by conv => lhs; whnf) (TL.nil h_)) ?_
            refine Plan.v 34 [35, 36, 37, 38, 39, 40, 41, 42, 43, 44, 45, 46] (by kernel_rfl) (by kernel_rfl) (by kernel_rfl) (by kernel_rfl) rfl (fun _ _ h_ => R.mvE rfl (by conv => lhs; whnf) (TL.nil h_)) ?_
            refine Plan.v 35 [36, 37, 38, 39, 40, 41, 42, 43, 44, 45, 46] (by kernel_rfl) (by kernel_rfl) (by kernel_rfl) (by kernel_rfl) rfl (fun _ _ h_ => TL.off rfl rfl rfl (TL.nil h_)) ?_
            refine Plan.v 36 [37, 38, 39, 40, 41, 42, 43, 44, 45, 46] (by kernel_rfl) (by kernel_rfl) (by kernel_rfl) (by kernel_rfl) rfl (fun _ _ h_ => TL.off rfl rfl rfl (TL.nil h_)) ?_
            refine Plan.v 37 [38, 39, 40, 41, 42, 43, 44, 45, 46] (by kernel_rfl) (by kernel_rfl) (by kernel_rfl) (by kernel_rfl) rfl (fun _ _ h_ => TL.off rfl rfl rfl (TL.nil h_)) ?_
            refine Plan.v 38 [39, 40, 41, 42, 43, 44, 45, 46] (by kernel_rfl) (by kernel_rfl) (by kernel_rfl) (by kernel_rfl) rfl (fun _ _ h_ => TL.off rfl rfl rfl (TL.nil h_)) ?_
            refine Plan.v 39 [40, 41, 42, 43, 44, 45, 46] (by kernel_rfl) (by kernel_rfl) (by kernel_rfl) (by kernel_rfl) rfl (fun _ _ h_ => R.pkFE rfl rfl (by conv => lhs; whnf) (TL.nil h_)) ?_
            refine Plan.v 40 [41, 42, 43, 44, 45, 46] (by kernel_rfl) (by kernel_rfl) (by kernel_rfl) (by kernel_rfl) rfl (fun _ _ h_ => R.mvE rfl (by conv => lhs; whnf) (TL.nil h_)) ?_
            refine Plan.v 41 [42, 43, 44, 45, 46] (by kernel_rfl) (by kernel_rfl) (by kernel_rfl) (by kernel_rfl) rfl (fun _ _ h_ => TL.off rfl rfl rfl (TL.nil h_)) ?_
            refine Plan.v 42 [43, 44, 45, 46] (by kernel_rfl) (by kernel_rfl) (by kernel_rfl) (by kernel_rfl) rfl (fun _ _ h_ => TL.off rfl rfl rfl (TL.nil h_)) ?_
            refine Plan.v 43 [44, 45, 46] (by kernel_rfl) (by kernel_rfl) (by kernel_rfl) (by kernel_rfl) rfl (fun _ _ h_ => TL.off rfl rfl rfl (TL.nil h_)) ?_
            refine Plan.v 44 [45, 46] (by kernel_rfl) (by kernel_rfl) (by kernel_rfl) (by kernel_rfl) rfl (fun _ _ h_ => TL.off rfl rfl rfl (TL.nil h_)) ?_
            refine Plan.v 45 [46] (by kernel_rfl) (by kernel_rfl) (by kernel_rfl) (by kernel_rfl) rfl (fun _ _ h_ => R.pkFE rfl rfl (by conv => lhs; whnf) (TL.nil h_)) ?_
            refine Plan.v 46 [] (by kernel_rfl) (by kernel_rfl) (by kernel_rfl) (by kernel_rfl) rfl (fun _ _ h_ => R.asE rfl (by conv => lhs; whnf) (TL.nil h_)) ?_
            refine Plan.done (Post.thnN ?_)
            refine T.has Has.nil ?_
            refine T.ret ?_
            have hM : windroselaw20_wakes_m = false := by subst er38; subst er32; subst er26; subst er19; subst er12; rw [windroselaw20_wakes_m, LR.seq_go, LR.seq_go, LR.seq_go, LR.seq_go, LR.seq_go, if_pos g43, if_pos g47, if_pos g51, if_pos g55, if_neg g61]
            exact fin1L (v := .bool false) [] rfl rfl (List.Sublist.refl _) ⟨rfl, by first | rw [hM] | rfl⟩
        · refine Plan.v 15 [16, 17, 18, 19, 20, 21, 22, 23, 24, 25, 26, 27, 28, 29, 30, 31, 32, 33, 34, 35, 36, 37, 38, 39, 40, 41, 42, 43, 44, 45, 46] (by kernel_rfl) (by kernel_rfl) (by kernel_rfl) (by kernel_rfl) rfl (fun _ _ h_ => TL.off rfl rfl rfl (TL.nil h_)) ?_
          refine Plan.v 16 [17, 18, 19, 20, 21, 22, 23, 24, 25, 26, 27, 28, 29, 30, 31, 32, 33, 34, 35, 36, 37, 38, 39, 40, 41, 42, 43, 44, 45, 46] (by kernel_rfl) (by kernel_rfl) (by kernel_rfl) (by kernel_rfl) rfl (fun _ _ h_ => TL.off rfl rfl rfl (TL.nil h_)) ?_
          refine Plan.v 17 [18, 19, 20, 21, 22, 23, 24, 25, 26, 27, 28, 29, 30, 31, 32, 33, 34, 35, 36, 37, 38, 39, 40, 41, 42, 43, 44, 45, 46] (by kernel_rfl) (by kernel_rfl) (by kernel_rfl) (by kernel_rfl) rfl (fun _ _ h_ => TL.off rfl rfl rfl (TL.nil h_)) ?_
          refine Plan.v 18 [19, 20, 21, 22, 23, 24, 25, 26, 27, 28, 29, 30, 31, 32, 33, 34, 35, 36, 37, 38, 39, 40, 41, 42, 43, 44, 45, 46] (by kernel_rfl) (by kernel_rfl) (by kernel_rfl) (by kernel_rfl) rfl (fun _ _ h_ => TL.off rfl rfl rfl (TL.nil h_)) ?_
          refine Plan.v 19 [20, 21, 22, 23, 24, 25, 26, 27, 28, 29, 30, 31, 32, 33, 34, 35, 36, 37, 38, 39, 40, 41, 42, 43, 44, 45, 46] (by kernel_rfl) (by kernel_rfl) (by kernel_rfl) (by kernel_rfl) rfl (fun _ _ h_ => R.pkFE rfl rfl (by conv => lhs; whnf) (TL.nil h_)) ?_
          refine Plan.v 20 [21, 22, 23, 24, 25, 26, 27, 28, 29, 30, 31, 32, 33, 34, 35, 36, 37, 38, 39, 40, 41, 42, 43, 44, 45, 46] (by kernel_rfl) (by kernel_rfl) (by kernel_rfl) (by kernel_rfl) rfl (fun _ _ h_ => R.mvE rfl (by conv => lhs; whnf) (TL.nil h_)) ?_
          refine Plan.v 21 [22, 23, 24, 25, 26, 27, 28, 29, 30, 31, 32, 33, 34, 35, 36, 37, 38, 39, 40, 41, 42, 43, 44, 45, 46] (by kernel_rfl) (by kernel_rfl) (by kernel_rfl) (by kernel_rfl) rfl (fun _ _ h_ => TL.off rfl rfl rfl (TL.nil h_)) ?_
          refine Plan.v 22 [23, 24, 25, 26, 27, 28, 29, 30, 31, 32, 33, 34, 35, 36, 37, 38, 39, 40, 41, 42, 43, 44, 45, 46] (by kernel_rfl) (by kernel_rfl) (by kernel_rfl) (by kernel_rfl) rfl (fun _ _ h_ => TL.off rfl rfl rfl (TL.nil h_)) ?_
          refine Plan.v 23 [24, 25, 26, 27, 28, 29, 30, 31, 32, 33, 34, 35, 36, 37, 38, 39, 40, 41, 42, 43, 44, 45, 46] (by kernel_rfl) (by kernel_rfl) (by kernel_rfl) (by kernel_rfl) rfl (fun _ _ h_ => TL.off rfl rfl rfl (TL.nil h_)) ?_
          refine Plan.v 24 [25, 26, 27, 28, 29, 30, 31, 32, 33, 34, 35, 36, 37, 38, 39, 40, 41, 42, 43, 44, 45, 46] (by kernel_rfl) (by kernel_rfl) (by kernel_rfl) (by kernel_rfl) rfl (fun _ _ h_ => TL.off rfl rfl rfl (TL.nil h_)) ?_
          refine Plan.v 25 [26, 27, 28, 29, 30, 31, 32, 33, 34, 35, 36, 37, 38, 39, 40, 41, 42, 43, 44, 45, 46] (by kernel_rfl) (by kernel_rfl) (by kernel_rfl) (by kernel_rfl) rfl (fun _ _ h_ => TL.off rfl rfl rfl (TL.nil h_)) ?_
          refine Plan.v 26 [27, 28, 29, 30, 31, 32, 33, 34, 35, 36, 37, 38, 39, 40, 41, 42, 43, 44, 45, 46] (by kernel_rfl) (by kernel_rfl) (by kernel_rfl) (by kernel_rfl) rfl (fun _ _ h_ => R.pkFE rfl rfl (by conv => lhs; whnf) (TL.nil h_)) ?_
          refine Plan.v 27 [28, 29, 30, 31, 32, 33, 34, 35, 36, 37, 38, 39, 40, 41, 42, 43, 44, 45, 46] (by kernel_rfl) (by kernel_rfl) (by kernel_rfl) (by kernel_rfl) rfl (fun _ _ h_ => R.mvE rfl (by conv => lhs; whnf) (TL.nil h_)) ?_
          refine Plan.v 28 [29, 30, 31, 32, 33, 34, 35, 36, 37, 38, 39, 40, 41, 42, 43, 44, 45, 46] (by kernel_rfl) (by kernel_rfl) (by kernel_rfl) (by kernel_rfl) rfl (fun _ _ h_ => TL.off rfl rfl rfl (TL.nil h_)) ?_
          refine Plan.v 29 [30, 31, 32, 33, 34, 35, 36, 37, 38, 39, 40, 41, 42, 43, 44, 45, 46] (by kernel_rfl) (by kernel_rfl) (by kernel_rfl) (by kernel_rfl) rfl (fun _ _ h_ => TL.off rfl rfl rfl (TL.nil h_)) ?_
          refine Plan.v 30 [31, 32, 33, 34, 35, 36, 37, 38, 39, 40, 41, 42, 43, 44, 45, 46] (by kernel_rfl) (by kernel_rfl) (by kernel_rfl) (by kernel_rfl) rfl (fun _ _ h_ => TL.off rfl rfl rfl (TL.nil h_)) ?_
          refine Plan.v 31 [32, 33, 34, 35, 36, 37, 38, 39, 40, 41, 42, 43, 44, 45, 46] (by kernel_rfl) (by kernel_rfl) (by kernel_rfl) (by kernel_rfl) rfl (fun _ _ h_ => TL.off rfl rfl rfl (TL.nil h_)) ?_
          refine Plan.v 32 [33, 34, 35, 36, 37, 38, 39, 40, 41, 42, 43, 44, 45, 46] (by kernel_rfl) (by kernel_rfl) (by kernel_rfl) (by kernel_rfl) rfl (fun _ _ h_ => TL.off rfl rfl rfl (TL.nil h_)) ?_
          refine Plan.v 33 [34, 35, 36, 37, 38, 39, 40, 41, 42, 43, 44, 45, 46] (by kernel_rfl) (by kernel_rfl) (by kernel_rfl) (by kernel_rfl) rfl (fun _ _ h_ => R.pkFE rfl rfl (by conv => lhs; whnf) (TL.nil h_)) ?_
          refine Plan.v 34 [35, 36, 37, 38, 39, 40, 41, 42, 43, 44, 45, 46] (by kernel_rfl) (by kernel_rfl) (by kernel_rfl) (by kernel_rfl) rfl (fun _ _ h_ => R.mvE rfl (by conv => lhs; whnf) (TL.nil h_)) ?_
          refine Plan.v 35 [36, 37, 38, 39, 40, 41, 42, 43, 44, 45, 46] (by kernel_rfl) (by kernel_rfl) (by kernel_rfl) (by kernel_rfl) rfl (fun _ _ h_ => TL.off rfl rfl rfl (TL.nil h_)) ?_
          refine Plan.v 36 [37, 38, 39, 40, 41, 42, 43, 44, 45, 46] (by kernel_rfl) (by kernel_rfl) (by kernel_rfl) (by kernel_rfl) rfl (fun _ _ h_ => TL.off rfl rfl rfl (TL.nil h_)) ?_
          refine Plan.v 37 [38, 39, 40, 41, 42, 43, 44, 45, 46] (by kernel_rfl) (by kernel_rfl) (by kernel_rfl) (by kernel_rfl) rfl (fun _ _ h_ => TL.off rfl rfl rfl (TL.nil h_)) ?_
          refine Plan.v 38 [39, 40, 41, 42, 43, 44, 45, 46] (by kernel_rfl) (by kernel_rfl) (by kernel_rfl) (by kernel_rfl) rfl (fun _ _ h_ => TL.off rfl rfl rfl (TL.nil h_)) ?_
          refine Plan.v 39 [40, 41, 42, 43, 44, 45, 46] (by kernel_rfl) (by kernel_rfl) (by kernel_rfl) (by kernel_rfl) rfl (fun _ _ h_ => R.pkFE rfl rfl (by conv => lhs; whnf) (TL.nil h_)) ?_
          refine Plan.v 40 [41, 42, 43, 44, 45, 46] (by kernel_rfl) (by kernel_rfl) (by kernel_rfl) (by kernel_rfl) rfl (fun _ _ h_ => R.mvE rfl (by conv => lhs; whnf) (TL.nil h_)) ?_
          refine Plan.v 41 [42, 43, 44, 45, 46] (by kernel_rfl) (by kernel_rfl) (by kernel_rfl) (by kernel_rfl) rfl (fun _ _ h_ => TL.off rfl rfl rfl (TL.nil h_)) ?_
          refine Plan.v 42 [43, 44, 45, 46] (by kernel_rfl) (by kernel_rfl) (by kernel_rfl) (by kernel_rfl) rfl (fun _ _ h_ => TL.off rfl rfl rfl (TL.nil h_)) ?_
          refine Plan.v 43 [44, 45, 46] (by kernel_rfl) (by kernel_rfl) (by kernel_rfl) (by kernel_rfl) rfl (fun _ _ h_ => TL.off rfl rfl rfl (TL.nil h_)) ?_
          refine Plan.v 44 [45, 46] (by kernel_rfl) (by kernel_rfl) (by kernel_rfl) (by kernel_rfl) rfl (fun _ _ h_ => TL.off rfl rfl rfl (TL.nil h_)) ?_
          refine Plan.v 45 [46] (by kernel_rfl) (by kernel_rfl) (by kernel_rfl) (by kernel_rfl) rfl (fun _ _ h_ => R.pkFE rfl rfl (by conv => lhs; whnf) (TL.nil h_)) ?_
          refine Plan.v 46 [] (by kernel_rfl) (by kernel_rfl) (by kernel_rfl) (by kernel_rfl) rfl (fun _ _ h_ => R.asE rfl (by conv => lhs; whnf) (TL.nil h_)) ?_
          refine Plan.done (Post.thnN ?_)
          refine T.has Has.nil ?_
          refine T.ret ?_
          have hM : windroselaw20_wakes_m = false := by subst er38; subst er32; subst er26; subst er19; subst er12; rw [windroselaw20_wakes_m, LR.seq_go, LR.seq_go, LR.seq_go, LR.seq_go, LR.seq_go, if_pos g43, if_pos g47, if_pos g51, if_neg g55]
          exact fin1L (v := .bool false) [] rfl rfl (List.Sublist.refl _) ⟨rfl, by first | rw [hM] | rfl⟩
      · refine Plan.v 11 [12, 13, 14, 15, 16, 17, 18, 19, 20, 21, 22, 23, 24, 25, 26, 27, 28, 29, 30, 31, 32, 33, 34, 35, 36, 37, 38, 39, 40, 41, 42, 43, 44, 45, 46] (by kernel_rfl) (by kernel_rfl) (by kernel_rfl) (by kernel_rfl) rfl (fun _ _ h_ => TL.off rfl rfl rfl (TL.nil h_)) ?_
        refine Plan.v 12 [13, 14, 15, 16, 17, 18, 19, 20, 21, 22, 23, 24, 25, 26, 27, 28, 29, 30, 31, 32, 33, 34, 35, 36, 37, 38, 39, 40, 41, 42, 43, 44, 45, 46] (by kernel_rfl) (by kernel_rfl) (by kernel_rfl) (by kernel_rfl) rfl (fun _ _ h_ => TL.off rfl rfl rfl (TL.nil h_)) ?_
        refine Plan.v 13 [14, 15, 16, 17, 18, 19, 20, 21, 22, 23, 24, 25, 26, 27, 28, 29, 30, 31, 32, 33, 34, 35, 36, 37, 38, 39, 40, 41, 42, 43, 44, 45, 46] (by kernel_rfl) (by kernel_rfl) (by kernel_rfl) (by kernel_rfl) rfl (fun _ _ h_ => R.pkFE rfl rfl (by conv => lhs; whnf) (TL.nil h_)) ?_
        refine Plan.v 14 [15, 16, 17, 18, 19, 20, 21, 22, 23, 24, 25, 26, 27, 28, 29, 30, 31, 32, 33, 34, 35, 36, 37, 38, 39, 40, 41, 42, 43, 44, 45, 46] (by kernel_rfl) (by kernel_rfl) (by kernel_rfl) (by kernel_rfl) rfl (fun _ _ h_ => R.mvE rfl (by conv => lhs; whnf) (TL.nil h_)) ?_
        refine Plan.v 15 [16, 17, 18, 19, 20, 21, 22, 23, 24, 25, 26, 27, 28, 29, 30, 31, 32, 33, 34, 35, 36, 37, 38, 39, 40, 41, 42, 43, 44, 45, 46] (by kernel_rfl) (by kernel_rfl) (by kernel_rfl) (by kernel_rfl) rfl (fun _ _ h_ => TL.off rfl rfl rfl (TL.nil h_)) ?_
        refine Plan.v 16 [17, 18, 19, 20, 21, 22, 23, 24, 25, 26, 27, 28, 29, 30, 31, 32, 33, 34, 35, 36, 37, 38, 39, 40, 41, 42, 43, 44, 45, 46] (by kernel_rfl) (by kernel_rfl) (by kernel_rfl) (by kernel_rfl) rfl (fun _ _ h_ => TL.off rfl rfl rfl (TL.nil h_)) ?_
        refine Plan.v 17 [18, 19, 20, 21, 22, 23, 24, 25, 26, 27, 28, 29, 30, 31, 32, 33, 34, 35, 36, 37, 38, 39, 40, 41, 42, 43, 44, 45, 46] (by kernel_rfl) (by kernel_rfl) (by kernel_rfl) (by kernel_rfl) rfl (fun _ _ h_ => TL.off rfl rfl rfl (TL.nil h_)) ?_
        refine Plan.v 18 [19, 20, 21, 22, 23, 24, 25, 26, 27, 28, 29, 30, 31, 32, 33, 34, 35, 36, 37, 38, 39, 40, 41, 42, 43, 44, 45, 46] (by kernel_rfl) (by kernel_rfl) (by kernel_rfl) (by kernel_rfl) rfl (fun _ _ h_ => TL.off rfl rfl rfl (TL.nil h_)) ?_
        refine Plan.v 19 [20, 21, 22, 23, 24, 25, 26, 27, 28, 29, 30, 31, 32, 33, 34, 35, 36, 37, 38, 39, 40, 41, 42, 43, 44, 45, 46] (by kernel_rfl) (by kernel_rfl) (by kernel_rfl) (by kernel_rfl) rfl (fun _ _ h_ => R.pkFE rfl rfl (by conv => lhs; whnf) (TL.nil h_)) ?_
        refine Plan.v 20 [21, 22, 23, 24, 25, 26, 27, 28, 29, 30, 31, 32, 33, 34, 35, 36, 37, 38, 39, 40, 41, 42, 43, 44, 45, 46] (by kernel_rfl) (by kernel_rfl) (by kernel_rfl) (by kernel_rfl) rfl (fun _ _ h_ => R.mvE rfl (by conv => lhs; whnf) (TL.nil h_)) ?_
        refine Plan.v 21 [22, 23, 24, 25, 26, 27, 28, 29, 30, 31, 32, 33, 34, 35, 36, 37, 38, 39, 40, 41, 42, 43, 44, 45, 46] (by kernel_rfl) (by kernel_rfl) (by kernel_rfl) (by kernel_rfl) rfl (fun _ _ h_ => TL.off rfl rfl rfl (TL.nil h_)) ?_
        refine Plan.v 22 [23, 24, 25, 26, 27, 28, 29, 30, 31, 32, 33, 34, 35, 36, 37, 38, 39, 40, 41, 42, 43, 44, 45, 46] (by kernel_rfl) (by kernel_rfl) (by kernel_rfl) (by kernel_rfl) rfl (fun _ _ h_ => TL.off rfl rfl rfl (TL.nil h_)) ?_
        refine Plan.v 23 [24, 25, 26, 27, 28, 29, 30, 31, 32, 33, 34, 35, 36, 37, 38, 39, 40, 41, 42, 43, 44, 45, 46] (by kernel_rfl) (by kernel_rfl) (by kernel_rfl) (by kernel_rfl) rfl (fun _ _ h_ => TL.off rfl rfl rfl (TL.nil h_)) ?_
        refine Plan.v 24 [25, 26, 27, 28, 29, 30, 31, 32, 33, 34, 35, 36, 37, 38, 39, 40, 41, 42, 43, 44, 45, 46] (by kernel_rfl) (by kernel_rfl) (by kernel_rfl) (by kernel_rfl) rfl (fun _ _ h_ => TL.off rfl rfl rfl (TL.nil h_)) ?_
        refine Plan.v 25 [26, 27, 28, 29, 30, 31, 32, 33, 34, 35, 36, 37, 38, 39, 40, 41, 42, 43, 44, 45, 46] (by kernel_rfl) (by kernel_rfl) (by kernel_rfl) (by kernel_rfl) rfl (fun _ _ h_ => TL.off rfl rfl rfl (TL.nil h_)) ?_
        refine Plan.v 26 [27, 28, 29, 30, 31, 32, 33, 34, 35, 36, 37, 38, 39, 40, 41, 42, 43, 44, 45, 46] (by kernel_rfl) (by kernel_rfl) (by kernel_rfl) (by kernel_rfl) rfl (fun _ _ h_ => R.pkFE rfl rfl (by conv => lhs; whnf) (TL.nil h_)) ?_
        refine Plan.v 27 [28, 29, 30, 31, 32, 33, 34, 35, 36, 37, 38, 39, 40, 41, 42, 43, 44, 45, 46] (by kernel_rfl) (by kernel_rfl) (by kernel_rfl) (by kernel_rfl) rfl (fun _ _ h_ => R.mvE rfl (by conv => lhs; whnf) (TL.nil h_)) ?_
        refine Plan.v 28 [29, 30, 31, 32, 33, 34, 35, 36, 37, 38, 39, 40, 41, 42, 43, 44, 45, 46] (by kernel_rfl) (by kernel_rfl) (by kernel_rfl) (by kernel_rfl) rfl (fun _ _ h_ => TL.off rfl rfl rfl (TL.nil h_)) ?_
        refine Plan.v 29 [30, 31, 32, 33, 34, 35, 36, 37, 38, 39, 40, 41, 42, 43, 44, 45, 46] (by kernel_rfl) (by kernel_rfl) (by kernel_rfl) (by kernel_rfl) rfl (fun _ _ h_ => TL.off rfl rfl rfl (TL.nil h_)) ?_
        refine Plan.v 30 [31, 32, 33, 34, 35, 36, 37, 38, 39, 40, 41, 42, 43, 44, 45, 46] (by kernel_rfl) (by kernel_rfl) (by kernel_rfl) (by kernel_rfl) rfl (fun _ _ h_ => TL.off rfl rfl rfl (TL.nil h_)) ?_
        refine Plan.v 31 [32, 33, 34, 35, 36, 37, 38, 39, 40, 41, 42, 43, 44, 45, 46] (by kernel_rfl) (by kernel_rfl) (by kernel_rfl) (by kernel_rfl) rfl (fun _ _ h_ => TL.off rfl rfl rfl (TL.nil h_)) ?_
        refine Plan.v 32 [33, 34, 35, 36, 37, 38, 39, 40, 41, 42, 43, 44, 45, 46] (by kernel_rfl) (by kernel_rfl) (by kernel_rfl) (by kernel_rfl) rfl (fun _ _ h_ => TL.off rfl rfl rfl (TL.nil h_)) ?_
        refine Plan.v 33 [34, 35, 36, 37, 38, 39, 40, 41, 42, 43, 44, 45, 46] (by kernel_rfl) (by kernel_rfl) (by kernel_rfl) (by kernel_rfl) rfl (fun _ _ h_ => R.pkFE rfl rfl (by conv => lhs; whnf) (TL.nil h_)) ?_
        refine Plan.v 34 [35, 36, 37, 38, 39, 40, 41, 42, 43, 44, 45, 46] (by kernel_rfl) (by kernel_rfl) (by kernel_rfl) (by kernel_rfl) rfl (fun _ _ h_ => R.mvE rfl (by conv => lhs; whnf) (TL.nil h_)) ?_
        refine Plan.v 35 [36, 37, 38, 39, 40, 41, 42, 43, 44, 45, 46] (by kernel_rfl) (by kernel_rfl) (by kernel_rfl) (by kernel_rfl) rfl (fun _ _ h_ => TL.off rfl rfl rfl (TL.nil h_)) ?_
        refine Plan.v 36 [37, 38, 39, 40, 41, 42, 43, 44, 45, 46] (by kernel_rfl) (by kernel_rfl) (by kernel_rfl) (by kernel_rfl) rfl (fun _ _ h_ => TL.off rfl rfl rfl (TL.nil h_)) ?_
        refine Plan.v 37 [38, 39, 40, 41, 42, 43, 44, 45, 46] (by kernel_rfl) (by kernel_rfl) (by kernel_rfl) (by kernel_rfl) rfl (fun _ _ h_ => TL.off rfl rfl rfl (TL.nil h_)) ?_
        refine Plan.v 38 [39, 40, 41, 42, 43, 44, 45, 46] (by kernel_rfl) (by kernel_rfl) (by kernel_rfl) (by kernel_rfl) rfl (fun _ _ h_ => TL.off rfl rfl rfl (TL.nil h_)) ?_
        refine Plan.v 39 [40, 41, 42, 43, 44, 45, 46] (by kernel_rfl) (by kernel_rfl) (by kernel_rfl) (by kernel_rfl) rfl (fun _ _ h_ => R.pkFE rfl rfl (by conv => lhs; whnf) (TL.nil h_)) ?_
        refine Plan.v 40 [41, 42, 43, 44, 45, 46] (by kernel_rfl) (by kernel_rfl) (by kernel_rfl) (by kernel_rfl) rfl (fun _ _ h_ => R.mvE rfl (by conv => lhs; whnf) (TL.nil h_)) ?_
        refine Plan.v 41 [42, 43, 44, 45, 46] (by kernel_rfl) (by kernel_rfl) (by kernel_rfl) (by kernel_rfl) rfl (fun _ _ h_ => TL.off rfl rfl rfl (TL.nil h_)) ?_
        refine Plan.v 42 [43, 44, 45, 46] (by kernel_rfl) (by kernel_rfl) (by kernel_rfl) (by kernel_rfl) rfl (fun _ _ h_ => TL.off rfl rfl rfl (TL.nil h_)) ?_
        refine Plan.v 43 [44, 45, 46] (by kernel_rfl) (by kernel_rfl) (by kernel_rfl) (by kernel_rfl) rfl (fun _ _ h_ => TL.off rfl rfl rfl (TL.nil h_)) ?_
        refine Plan.v 44 [45, 46] (by kernel_rfl) (by kernel_rfl) (by kernel_rfl) (by kernel_rfl) rfl (fun _ _ h_ => TL.off rfl rfl rfl (TL.nil h_)) ?_
        refine Plan.v 45 [46] (by kernel_rfl) (by kernel_rfl) (by kernel_rfl) (by kernel_rfl) rfl (fun _ _ h_ => R.pkFE rfl rfl (by conv => lhs; whnf) (TL.nil h_)) ?_
        refine Plan.v 46 [] (by kernel_rfl) (by kernel_rfl) (by kernel_rfl) (by kernel_rfl) rfl (fun _ _ h_ => R.asE rfl (by conv => lhs; whnf) (TL.nil h_)) ?_
        refine Plan.done (Post.thnN ?_)
        refine T.has Has.nil ?_
        refine T.ret ?_
        have hM : windroselaw20_wakes_m = false := by subst er38; subst er32; subst er26; subst er19; subst er12; rw [windroselaw20_wakes_m, LR.seq_go, LR.seq_go, LR.seq_go, LR.seq_go, LR.seq_go, if_pos g43, if_pos g47, if_neg g51]
        exact fin1L (v := .bool false) [] rfl rfl (List.Sublist.refl _) ⟨rfl, by first | rw [hM] | rfl⟩
    · refine Plan.v 7 [8, 9, 10, 11, 12, 13, 14, 15, 16, 17, 18, 19, 20, 21, 22, 23, 24, 25, 26, 27, 28, 29, 30, 31, 32, 33, 34, 35, 36, 37, 38, 39, 40, 41, 42, 43, 44, 45, 46] (by kernel_rfl) (by kernel_rfl) (by kernel_rfl) (by kernel_rfl) rfl (fun _ _ h_ => TL.off rfl rfl rfl (TL.nil h_)) ?_
      refine Plan.v 8 [9, 10, 11, 12, 13, 14, 15, 16, 17, 18, 19, 20, 21, 22, 23, 24, 25, 26, 27, 28, 29, 30, 31, 32, 33, 34, 35, 36, 37, 38, 39, 40, 41, 42, 43, 44, 45, 46] (by kernel_rfl) (by kernel_rfl) (by kernel_rfl) (by kernel_rfl) rfl (fun _ _ h_ => TL.off rfl rfl rfl (TL.nil h_)) ?_
      refine Plan.v 9 [10, 11, 12, 13, 14, 15, 16, 17, 18, 19, 20, 21, 22, 23, 24, 25, 26, 27, 28, 29, 30, 31, 32, 33, 34, 35, 36, 37, 38, 39, 40, 41, 42, 43, 44, 45, 46] (by kernel_rfl) (by kernel_rfl) (by kernel_rfl) (by kernel_rfl) rfl (fun _ _ h_ => R.pkFE rfl rfl (by conv => lhs; whnf) (TL.nil h_)) ?_
      refine Plan.v 10 [11, 12, 13, 14, 15, 16, 17, 18, 19, 20, 21, 22, 23, 24, 25, 26, 27, 28, 29, 30, 31, 32, 33, 34, 35, 36, 37, 38, 39, 40, 41, 42, 43, 44, 45, 46] (by kernel_rfl) (by kernel_rfl) (by kernel_rfl) (by kernel_rfl) rfl (fun _ _ h_ => R.mvE rfl (by conv => lhs; whnf) (TL.nil h_)) ?_
      refine Plan.v 11 [12, 13, 14, 15, 16, 17, 18, 19, 20, 21, 22, 23, 24, 25, 26, 27, 28, 29, 30, 31, 32, 33, 34, 35, 36, 37, 38, 39, 40, 41, 42, 43, 44, 45, 46] (by kernel_rfl) (by kernel_rfl) (by kernel_rfl) (by kernel_rfl) rfl (fun _ _ h_ => TL.off rfl rfl rfl (TL.nil h_)) ?_
      refine Plan.v 12 [13, 14, 15, 16, 17, 18, 19, 20, 21, 22, 23, 24, 25, 26, 27, 28, 29, 30, 31, 32, 33, 34, 35, 36, 37, 38, 39, 40, 41, 42, 43, 44, 45, 46] (by kernel_rfl) (by kernel_rfl) (by kernel_rfl) (by kernel_rfl) rfl (fun _ _ h_ => TL.off rfl rfl rfl (TL.nil h_)) ?_
      refine Plan.v 13 [14, 15, 16, 17, 18, 19, 20, 21, 22, 23, 24, 25, 26, 27, 28, 29, 30, 31, 32, 33, 34, 35, 36, 37, 38, 39, 40, 41, 42, 43, 44, 45, 46] (by kernel_rfl) (by kernel_rfl) (by kernel_rfl) (by kernel_rfl) rfl (fun _ _ h_ => R.pkFE rfl rfl (by conv => lhs; whnf) (TL.nil h_)) ?_
      refine Plan.v 14 [15, 16, 17, 18, 19, 20, 21, 22, 23, 24, 25, 26, 27, 28, 29, 30, 31, 32, 33, 34, 35, 36, 37, 38, 39, 40, 41, 42, 43, 44, 45, 46] (by kernel_rfl) (by kernel_rfl) (by kernel_rfl) (by kernel_rfl) rfl (fun _ _ h_ => R.mvE rfl (by conv => lhs; whnf) (TL.nil h_)) ?_
      refine Plan.v 15 [16, 17, 18, 19, 20, 21, 22, 23, 24, 25, 26, 27, 28, 29, 30, 31, 32, 33, 34, 35, 36, 37, 38, 39, 40, 41, 42, 43, 44, 45, 46] (by kernel_rfl) (by kernel_rfl) (by kernel_rfl) (by kernel_rfl) rfl (fun _ _ h_ => TL.off rfl rfl rfl (TL.nil h_)) ?_
      refine Plan.v 16 [17, 18, 19, 20, 21, 22, 23, 24, 25, 26, 27, 28, 29, 30, 31, 32, 33, 34, 35, 36, 37, 38, 39, 40, 41, 42, 43, 44, 45, 46] (by kernel_rfl) (by kernel_rfl) (by kernel_rfl) (by kernel_rfl) rfl (fun _ _ h_ => TL.off rfl rfl rfl (TL.nil h_)) ?_
      refine Plan.v 17 [18, 19, 20, 21, 22, 23, 24, 25, 26, 27, 28, 29, 30, 31, 32, 33, 34, 35, 36, 37, 38, 39, 40, 41, 42, 43, 44, 45, 46] (by kernel_rfl) (by kernel_rfl) (by kernel_rfl) (by kernel_rfl) rfl (fun _ _ h_ => TL.off rfl rfl rfl (TL.nil h_)) ?_
      refine Plan.v 18 [19, 20, 21, 22, 23, 24, 25, 26, 27, 28, 29, 30, 31, 32, 33, 34, 35, 36, 37, 38, 39, 40, 41, 42, 43, 44, 45, 46] (by kernel_rfl) (by kernel_rfl) (by kernel_rfl) (by kernel_rfl) rfl (fun _ _ h_ => TL.off rfl rfl rfl (TL.nil h_)) ?_
      refine Plan.v 19 [20, 21, 22, 23, 24, 25, 26, 27, 28, 29, 30, 31, 32, 33, 34, 35, 36, 37, 38, 39, 40, 41, 42, 43, 44, 45, 46] (by kernel_rfl) (by kernel_rfl) (by kernel_rfl) (by kernel_rfl) rfl (fun _ _ h_ => R.pkFE rfl rfl (by conv => lhs; whnf) (TL.nil h_)) ?_
      refine Plan.v 20 [21, 22, 23, 24, 25, 26, 27, 28, 29, 30, 31, 32, 33, 34, 35, 36, 37, 38, 39, 40, 41, 42, 43, 44, 45, 46] (by kernel_rfl) (by kernel_rfl) (by kernel_rfl) (by kernel_rfl) rfl (fun _ _ h_ => R.mvE rfl (by conv => lhs; whnf) (TL.nil h_)) ?_
      refine Plan.v 21 [22, 23, 24, 25, 26, 27, 28, 29, 30, 31, 32, 33, 34, 35, 36, 37, 38, 39, 40, 41, 42, 43, 44, 45, 46] (by kernel_rfl) (by kernel_rfl) (by kernel_rfl) (by kernel_rfl) rfl (fun _ _ h_ => TL.off rfl rfl rfl (TL.nil h_)) ?_
      refine Plan.v 22 [23, 24, 25, 26, 27, 28, 29, 30, 31, 32, 33, 34, 35, 36, 37, 38, 39, 40, 41, 42, 43, 44, 45, 46] (by kernel_rfl) (by kernel_rfl) (by kernel_rfl) (by kernel_rfl) rfl (fun _ _ h_ => TL.off rfl rfl rfl (TL.nil h_)) ?_
      refine Plan.v 23 [24, 25, 26, 27, 28, 29, 30, 31, 32, 33, 34, 35, 36, 37, 38, 39, 40, 41, 42, 43, 44, 45, 46] (by kernel_rfl) (by kernel_rfl) (by kernel_rfl) (by kernel_rfl) rfl (fun _ _ h_ => TL.off rfl rfl rfl (TL.nil h_)) ?_
      refine Plan.v 24 [25, 26, 27, 28, 29, 30, 31, 32, 33, 34, 35, 36, 37, 38, 39, 40, 41, 42, 43, 44, 45, 46] (by kernel_rfl) (by kernel_rfl) (by kernel_rfl) (by kernel_rfl) rfl (fun _ _ h_ => TL.off rfl rfl rfl (TL.nil h_)) ?_
      refine Plan.v 25 [26, 27, 28, 29, 30, 31, 32, 33, 34, 35, 36, 37, 38, 39, 40, 41, 42, 43, 44, 45, 46] (by kernel_rfl) (by kernel_rfl) (by kernel_rfl) (by kernel_rfl) rfl (fun _ _ h_ => TL.off rfl rfl rfl (TL.nil h_)) ?_
      refine Plan.v 26 [27, 28, 29, 30, 31, 32, 33, 34, 35, 36, 37, 38, 39, 40, 41, 42, 43, 44, 45, 46] (by kernel_rfl) (by kernel_rfl) (by kernel_rfl) (by kernel_rfl) rfl (fun _ _ h_ => R.pkFE rfl rfl (by conv => lhs; whnf) (TL.nil h_)) ?_
      refine Plan.v 27 [28, 29, 30, 31, 32, 33, 34, 35, 36, 37, 38, 39, 40, 41, 42, 43, 44, 45, 46] (by kernel_rfl) (by kernel_rfl) (by kernel_rfl) (by kernel_rfl) rfl (fun _ _ h_ => R.mvE rfl (by conv => lhs; whnf) (TL.nil h_)) ?_
      refine Plan.v 28 [29, 30, 31, 32, 33, 34, 35, 36, 37, 38, 39, 40, 41, 42, 43, 44, 45, 46] (by kernel_rfl) (by kernel_rfl) (by kernel_rfl) (by kernel_rfl) rfl (fun _ _ h_ => TL.off rfl rfl rfl (TL.nil h_)) ?_
      refine Plan.v 29 [30, 31, 32, 33, 34, 35, 36, 37, 38, 39, 40, 41, 42, 43, 44, 45, 46] (by kernel_rfl) (by kernel_rfl) (by kernel_rfl) (by kernel_rfl) rfl (fun _ _ h_ => TL.off rfl rfl rfl (TL.nil h_)) ?_
      refine Plan.v 30 [31, 32, 33, 34, 35, 36, 37, 38, 39, 40, 41, 42, 43, 44, 45, 46] (by kernel_rfl) (by kernel_rfl) (by kernel_rfl) (by kernel_rfl) rfl (fun _ _ h_ => TL.off rfl rfl rfl (TL.nil h_)) ?_
      refine Plan.v 31 [32, 33, 34, 35, 36, 37, 38, 39, 40, 41, 42, 43, 44, 45, 46] (by kernel_rfl) (by kernel_rfl) (by kernel_rfl) (by kernel_rfl) rfl (fun _ _ h_ => TL.off rfl rfl rfl (TL.nil h_)) ?_
      refine Plan.v 32 [33, 34, 35, 36, 37, 38, 39, 40, 41, 42, 43, 44, 45, 46] (by kernel_rfl) (by kernel_rfl) (by kernel_rfl) (by kernel_rfl) rfl (fun _ _ h_ => TL.off rfl rfl rfl (TL.nil h_)) ?_
      refine Plan.v 33 [34, 35, 36, 37, 38, 39, 40, 41, 42, 43, 44, 45, 46] (by kernel_rfl) (by kernel_rfl) (by kernel_rfl) (by kernel_rfl) rfl (fun _ _ h_ => R.pkFE rfl rfl (by conv => lhs; whnf) (TL.nil h_)) ?_
      refine Plan.v 34 [35, 36, 37, 38, 39, 40, 41, 42, 43, 44, 45, 46] (by kernel_rfl) (by kernel_rfl) (by kernel_rfl) (by kernel_rfl) rfl (fun _ _ h_ => R.mvE rfl (by conv => lhs; whnf) (TL.nil h_)) ?_
      refine Plan.v 35 [36, 37, 38, 39, 40, 41, 42, 43, 44, 45, 46] (by kernel_rfl) (by kernel_rfl) (by kernel_rfl) (by kernel_rfl) rfl (fun _ _ h_ => TL.off rfl rfl rfl (TL.nil h_)) ?_
      refine Plan.v 36 [37, 38, 39, 40, 41, 42, 43, 44, 45, 46] (by kernel_rfl) (by kernel_rfl) (by kernel_rfl) (by kernel_rfl) rfl (fun _ _ h_ => TL.off rfl rfl rfl (TL.nil h_)) ?_
      refine Plan.v 37 [38, 39, 40, 41, 42, 43, 44, 45, 46] (by kernel_rfl) (by kernel_rfl) (by kernel_rfl) (by kernel_rfl) rfl (fun _ _ h_ => TL.off rfl rfl rfl (TL.nil h_)) ?_
      refine Plan.v 38 [39, 40, 41, 42, 43, 44, 45, 46] (by kernel_rfl) (by kernel_rfl) (by kernel_rfl) (by kernel_rfl) rfl (fun _ _ h_ => TL.off rfl rfl rfl (TL.nil h_)) ?_
      refine Plan.v 39 [40, 41, 42, 43, 44, 45, 46] (by kernel_rfl) (by kernel_rfl) (by kernel_rfl) (by kernel_rfl) rfl (fun _ _ h_ => R.pkFE rfl rfl (by conv => lhs; whnf) (TL.nil h_)) ?_
      refine Plan.v 40 [41, 42, 43, 44, 45, 46] (by kernel_rfl) (by kernel_rfl) (by kernel_rfl) (by kernel_rfl) rfl (fun _ _ h_ => R.mvE rfl (by conv => lhs; whnf) (TL.nil h_)) ?_
      refine Plan.v 41 [42, 43, 44, 45, 46] (by kernel_rfl) (by kernel_rfl) (by kernel_rfl) (by kernel_rfl) rfl (fun _ _ h_ => TL.off rfl rfl rfl (TL.nil h_)) ?_
      refine Plan.v 42 [43, 44, 45, 46] (by kernel_rfl) (by kernel_rfl) (by kernel_rfl) (by kernel_rfl) rfl (fun _ _ h_ => TL.off rfl rfl rfl (TL.nil h_)) ?_
      refine Plan.v 43 [44, 45, 46] (by kernel_rfl) (by kernel_rfl) (by kernel_rfl) (by kernel_rfl) rfl (fun _ _ h_ => TL.off rfl rfl rfl (TL.nil h_)) ?_
      refine Plan.v 44 [45, 46] (by kernel_rfl) (by kernel_rfl) (by kernel_rfl) (by kernel_rfl) rfl (fun _ _ h_ => TL.off rfl rfl rfl (TL.nil h_)) ?_
      refine Plan.v 45 [46] (by kernel_rfl) (by kernel_rfl) (by kernel_rfl) (by kernel_rfl) rfl (fun _ _ h_ => R.pkFE rfl rfl (by conv => lhs; whnf) (TL.nil h_)) ?_
      refine Plan.v 46 [] (by kernel_rfl) (by kernel_rfl) (by kernel_rfl) (by kernel_rfl) rfl (fun _ _ h_ => R.asE rfl (by conv => lhs; whnf) (TL.nil h_)) ?_
      refine Plan.done (Post.thnN ?_)
      refine T.has Has.nil ?_
      refine T.ret ?_
      have hM : windroselaw20_wakes_m = false := by subst er38; subst er32; subst er26; subst er19; subst er12; rw [windroselaw20_wakes_m, LR.seq_go, LR.seq_go, LR.seq_go, LR.seq_go, LR.seq_go, if_pos g43, if_neg g47]
      exact fin1L (v := .bool false) [] rfl rfl (List.Sublist.refl _) ⟨rfl, by first | rw [hM] | rfl⟩
  · refine Plan.v 3 [4, 5, 6, 7, 8, 9, 10, 11, 12, 13, 14, 15, 16, 17, 18, 19, 20, 21, 22, 23, 24, 25, 26, 27, 28, 29, 30, 31, 32, 33, 34, 35, 36, 37, 38, 39, 40, 41, 42, 43, 44, 45, 46] (by kernel_rfl) (by kernel_rfl) (by kernel_rfl) (by kernel_rfl) rfl (fun _ _ h_ => TL.off rfl rfl rfl (TL.nil h_)) ?_
    refine Plan.v 4 [5, 6, 7, 8, 9, 10, 11, 12, 13, 14, 15, 16, 17, 18, 19, 20, 21, 22, 23, 24, 25, 26, 27, 28, 29, 30, 31, 32, 33, 34, 35, 36, 37, 38, 39, 40, 41, 42, 43, 44, 45, 46] (by kernel_rfl) (by kernel_rfl) (by kernel_rfl) (by kernel_rfl) rfl (fun _ _ h_ => TL.off rfl rfl rfl (TL.nil h_)) ?_
    refine Plan.v 5 [6, 7, 8, 9, 10, 11, 12, 13, 14, 15, 16, 17, 18, 19, 20, 21, 22, 23, 24, 25, 26, 27, 28, 29, 30, 31, 32, 33, 34, 35, 36, 37, 38, 39, 40, 41, 42, 43, 44, 45, 46] (by kernel_rfl) (by kernel_rfl) (by kernel_rfl) (by kernel_rfl) rfl (fun _ _ h_ => R.pkFE rfl rfl (by conv => lhs; whnf) (TL.nil h_)) ?_
    refine Plan.v 6 [7, 8, 9, 10, 11, 12, 13, 14, 15, 16, 17, 18, 19, 20, 21, 22, 23, 24, 25, 26, 27, 28, 29, 30, 31, 32, 33, 34, 35, 36, 37, 38, 39, 40, 41, 42, 43, 44, 45, 46] (by kernel_rfl) (by kernel_rfl) (by kernel_rfl) (by kernel_rfl) rfl (fun _ _ h_ => R.mvE rfl (by conv => lhs; whnf) (TL.nil h_)) ?_
    refine Plan.v 7 [8, 9, 10, 11, 12, 13, 14, 15, 16, 17, 18, 19, 20, 21, 22, 23, 24, 25, 26, 27, 28, 29, 30, 31, 32, 33, 34, 35, 36, 37, 38, 39, 40, 41, 42, 43, 44, 45, 46] (by kernel_rfl) (by kernel_rfl) (by kernel_rfl) (by kernel_rfl) rfl (fun _ _ h_ => TL.off rfl rfl rfl (TL.nil h_)) ?_
    refine Plan.v 8 [9, 10, 11, 12, 13, 14, 15, 16, 17, 18, 19, 20, 21, 22, 23, 24, 25, 26, 27, 28, 29, 30, 31, 32, 33, 34, 35, 36, 37, 38, 39, 40, 41, 42, 43, 44, 45, 46] (by kernel_rfl) (by kernel_rfl) (by kernel_rfl) (by kernel_rfl) rfl (fun _ _ h_ => TL.off rfl rfl rfl (TL.nil h_)) ?_
    refine Plan.v 9 [10, 11, 12, 13, 14, 15, 16, 17, 18, 19, 20, 21, 22, 23, 24, 25, 26, 27, 28, 29, 30, 31, 32, 33, 34, 35, 36, 37, 38, 39, 40, 41, 42, 43, 44, 45, 46] (by kernel_rfl) (by kernel_rfl) (by kernel_rfl) (by kernel_rfl) rfl (fun _ _ h_ => R.pkFE rfl rfl (by conv => lhs; whnf) (TL.nil h_)) ?_
    refine Plan.v 10 [11, 12, 13, 14, 15, 16, 17, 18, 19, 20, 21, 22, 23, 24, 25, 26, 27, 28, 29, 30, 31, 32, 33, 34, 35, 36, 37, 38, 39, 40, 41, 42, 43, 44, 45, 46] (by kernel_rfl) (by kernel_rfl) (by kernel_rfl) (by kernel_rfl) rfl (fun _ _ h_ => R.mvE rfl (by conv => lhs; whnf) (TL.nil h_)) ?_
    refine Plan.v 11 [12, 13, 14, 15, 16, 17, 18, 19, 20, 21, 22, 23, 24, 25, 26, 27, 28, 29, 30, 31, 32, 33, 34, 35, 36, 37, 38, 39, 40, 41, 42, 43, 44, 45, 46] (by kernel_rfl) (by kernel_rfl) (by kernel_rfl) (by kernel_rfl) rfl (fun _ _ h_ => TL.off rfl rfl rfl (TL.nil h_)) ?_
    refine Plan.v 12 [13, 14, 15, 16, 17, 18, 19, 20, 21, 22, 23, 24, 25, 26, 27, 28, 29, 30, 31, 32, 33, 34, 35, 36, 37, 38, 39, 40, 41, 42, 43, 44, 45, 46] (by kernel_rfl) (by kernel_rfl) (by kernel_rfl) (by kernel_rfl) rfl (fun _ _ h_ => TL.off rfl rfl rfl (TL.nil h_)) ?_
    refine Plan.v 13 [14, 15, 16, 17, 18, 19, 20, 21, 22, 23, 24, 25, 26, 27, 28, 29, 30, 31, 32, 33, 34, 35, 36, 37, 38, 39, 40, 41, 42, 43, 44, 45, 46] (by kernel_rfl) (by kernel_rfl) (by kernel_rfl) (by kernel_rfl) rfl (fun _ _ h_ => R.pkFE rfl rfl (by conv => lhs; whnf) (TL.nil h_)) ?_
    refine Plan.v 14 [15, 16, 17, 18, 19, 20, 21, 22, 23, 24, 25, 26, 27, 28, 29, 30, 31, 32, 33, 34, 35, 36, 37, 38, 39, 40, 41, 42, 43, 44, 45, 46] (by kernel_rfl) (by kernel_rfl) (by kernel_rfl) (by kernel_rfl) rfl (fun _ _ h_ => R.mvE rfl (by conv => lhs; whnf) (TL.nil h_)) ?_
    refine Plan.v 15 [16, 17, 18, 19, 20, 21, 22, 23, 24, 25, 26, 27, 28, 29, 30, 31, 32, 33, 34, 35, 36, 37, 38, 39, 40, 41, 42, 43, 44, 45, 46] (by kernel_rfl) (by kernel_rfl) (by kernel_rfl) (by kernel_rfl) rfl (fun _ _ h_ => TL.off rfl rfl rfl (TL.nil h_)) ?_
    refine Plan.v 16 [17, 18, 19, 20, 21, 22, 23, 24, 25, 26, 27, 28, 29, 30, 31, 32, 33, 34, 35, 36, 37, 38, 39, 40, 41, 42, 43, 44, 45, 46] (by kernel_rfl) (by kernel_rfl) (by kernel_rfl) (by kernel_rfl) rfl (fun _ _ h_ => TL.off rfl rfl rfl (TL.nil h_)) ?_
    refine Plan.v 17 [18, 19, 20, 21, 22, 23, 24, 25, 26, 27, 28, 29, 30, 31, 32, 33, 34, 35, 36, 37, 38, 39, 40, 41, 42, 43, 44, 45, 46] (by kernel_rfl) (by kernel_rfl) (by kernel_rfl) (by kernel_rfl) rfl (fun _ _ h_ => TL.off rfl rfl rfl (TL.nil h_)) ?_
    refine Plan.v 18 [19, 20, 21, 22, 23, 24, 25, 26, 27, 28, 29, 30, 31, 32, 33, 34, 35, 36, 37, 38, 39, 40, 41, 42, 43, 44, 45, 46] (by kernel_rfl) (by kernel_rfl) (by kernel_rfl) (by kernel_rfl) rfl (fun _ _ h_ => TL.off rfl rfl rfl (TL.nil h_)) ?_
    refine Plan.v 19 [20, 21, 22, 23, 24, 25, 26, 27, 28, 29, 30, 31, 32, 33, 34, 35, 36, 37, 38, 39, 40, 41, 42, 43, 44, 45, 46] (by kernel_rfl) (by kernel_rfl) (by kernel_rfl) (by kernel_rfl) rfl (fun _ _ h_ => R.pkFE rfl rfl (by conv => lhs; whnf) (TL.nil h_)) ?_
    refine Plan.v 20 [21, 22, 23, 24, 25, 26, 27, 28, 29, 30, 31, 32, 33, 34, 35, 36, 37, 38, 39, 40, 41, 42, 43, 44, 45, 46] (by kernel_rfl) (by kernel_rfl) (by kernel_rfl) (by kernel_rfl) rfl (fun _ _ h_ => R.mvE rfl (by conv => lhs; whnf) (TL.nil h_)) ?_
    refine Plan.v 21 [22, 23, 24, 25, 26, 27, 28, 29, 30, 31, 32, 33, 34, 35, 36, 37, 38, 39, 40, 41, 42, 43, 44, 45, 46] (by kernel_rfl) (by kernel_rfl) (by kernel_rfl) (by kernel_rfl) rfl (fun _ _ h_ => TL.off rfl rfl rfl (TL.nil h_)) ?_
    refine Plan.v 22 [23, 24, 25, 26, 27, 28, 29, 30, 31, 32, 33, 34, 35, 36, 37, 38, 39, 40, 41, 42, 43, 44, 45, 46] (by kernel_rfl) (by kernel_rfl) (by kernel_rfl) (by kernel_rfl) rfl (fun _ _ h_ => TL.off rfl rfl rfl (TL.nil h_)) ?_
    refine Plan.v 23 [24, 25, 26, 27, 28, 29, 30, 31, 32, 33, 34, 35, 36, 37, 38, 39, 40, 41, 42, 43, 44, 45, 46] (by kernel_rfl) (by kernel_rfl) (by kernel_rfl) (by kernel_rfl) rfl (fun _ _ h_ => TL.off rfl rfl rfl (TL.nil h_)) ?_
    refine Plan.v 24 [25, 26, 27, 28, 29, 30, 31, 32, 33, 34, 35, 36, 37, 38, 39, 40, 41, 42, 43, 44, 45, 46] (by kernel_rfl) (by kernel_rfl) (by kernel_rfl) (by kernel_rfl) rfl (fun _ _ h_ => TL.off rfl rfl rfl (TL.nil h_)) ?_
    refine Plan.v 25 [26, 27, 28, 29, 30, 31, 32, 33, 34, 35, 36, 37, 38, 39, 40, 41, 42, 43, 44, 45, 46] (by kernel_rfl) (by kernel_rfl) (by kernel_rfl) (by kernel_rfl) rfl (fun _ _ h_ => TL.off rfl rfl rfl (TL.nil h_)) ?_
    refine Plan.v 26 [27, 28, 29, 30, 31, 32, 33, 34, 35, 36, 37, 38, 39, 40, 41, 42, 43, 44, 45, 46] (by kernel_rfl) (by kernel_rfl) (by kernel_rfl) (by kernel_rfl) rfl (fun _ _ h_ => R.pkFE rfl rfl (by conv => lhs; whnf) (TL.nil h_)) ?_
    refine Plan.v 27 [28, 29, 30, 31, 32, 33, 34, 35, 36, 37, 38, 39, 40, 41, 42, 43, 44, 45, 46] (by kernel_rfl) (by kernel_rfl) (by kernel_rfl) (by kernel_rfl) rfl (fun _ _ h_ => R.mvE rfl (by conv => lhs; whnf) (TL.nil h_)) ?_
    refine Plan.v 28 [29, 30, 31, 32, 33, 34, 35, 36, 37, 38, 39, 40, 41, 42, 43, 44, 45, 46] (by kernel_rfl) (by kernel_rfl) (by kernel_rfl) (by kernel_rfl) rfl (fun _ _ h_ => TL.off rfl rfl rfl (TL.nil h_)) ?_
    refine Plan.v 29 [30, 31, 32, 33, 34, 35, 36, 37, 38, 39, 40, 41, 42, 43, 44, 45, 46] (by kernel_rfl) (by kernel_rfl) (by kernel_rfl) (by kernel_rfl) rfl (fun _ _ h_ => TL.off rfl rfl rfl (TL.nil h_)) ?_
    refine Plan.v 30 [31, 32, 33, 34, 35, 36, 37, 38, 39, 40, 41, 42, 43, 44, 45, 46] (by kernel_rfl) (by kernel_rfl) (by kernel_rfl) (by kernel_rfl) rfl (fun _ _ h_ => TL.off rfl rfl rfl (TL.nil h_)) ?_
    refine Plan.v 31 [32, 33, 34, 35, 36, 37, 38, 39, 40, 41, 42, 43, 44, 45, 46] (by kernel_rfl) (by kernel_rfl) (by kernel_rfl) (by kernel_rfl) rfl (fun _ _ h_ => TL.off rfl rfl rfl (TL.nil h_)) ?_
    refine Plan.v 32 [33, 34, 35, 36, 37, 38, 39, 40, 41, 42, 43, 44, 45, 46] (by kernel_rfl) (by kernel_rfl) (by kernel_rfl) (by kernel_rfl) rfl (fun _ _ h_ => TL.off rfl rfl rfl (TL.nil h_)) ?_
    refine Plan.v 33 [34, 35, 36, 37, 38, 39, 40, 41, 42, 43, 44, 45, 46] (by kernel_rfl) (by kernel_rfl) (by kernel_rfl) (by kernel_rfl) rfl (fun _ _ h_ => R.pkFE rfl rfl (by conv => lhs; whnf) (TL.nil h_)) ?_
    refine Plan.v 34 [35, 36, 37, 38, 39, 40, 41, 42, 43, 44, 45, 46] (by kernel_rfl) (by kernel_rfl) (by kernel_rfl) (by kernel_rfl) rfl (fun _ _ h_ => R.mvE rfl (by conv => lhs; whnf) (TL.nil h_)) ?_
    refine Plan.v 35 [36, 37, 38, 39, 40, 41, 42, 43, 44, 45, 46] (by kernel_rfl) (by kernel_rfl) (by kernel_rfl) (by kernel_rfl) rfl (fun _ _ h_ => TL.off rfl rfl rfl (TL.nil h_)) ?_
    refine Plan.v 36 [37, 38, 39, 40, 41, 42, 43, 44, 45, 46] (by kernel_rfl) (by kernel_rfl) (by kernel_rfl) (by kernel_rfl) rfl (fun _ _ h_ => TL.off rfl rfl rfl (TL.nil h_)) ?_
    refine Plan.v 37 [38, 39, 40, 41, 42, 43, 44, 45, 46] (by kernel_rfl) (by kernel_rfl) (by kernel_rfl) (by kernel_rfl) rfl (fun _ _ h_ => TL.off rfl rfl rfl (TL.nil h_)) ?_
    refine Plan.v 38 [39, 40, 41, 42, 43, 44, 45, 46] (by kernel_rfl) (by kernel_rfl) (by kernel_rfl) (by kernel_rfl) rfl (fun _ _ h_ => TL.off rfl rfl rfl (TL.nil h_)) ?_
    refine Plan.v 39 [40, 41, 42, 43, 44, 45, 46] (by kernel_rfl) (by kernel_rfl) (by kernel_rfl) (by kernel_rfl) rfl (fun _ _ h_ => R.pkFE rfl rfl (by conv => lhs; whnf) (TL.nil h_)) ?_
    refine Plan.v 40 [41, 42, 43, 44, 45, 46] (by kernel_rfl) (by kernel_rfl) (by kernel_rfl) (by kernel_rfl) rfl (fun _ _ h_ => R.mvE rfl (by conv => lhs; whnf) (TL.nil h_)) ?_
    refine Plan.v 41 [42, 43, 44, 45, 46] (by kernel_rfl) (by kernel_rfl) (by kernel_rfl) (by kernel_rfl) rfl (fun _ _ h_ => TL.off rfl rfl rfl (TL.nil h_)) ?_
    refine Plan.v 42 [43, 44, 45, 46] (by kernel_rfl) (by kernel_rfl) (by kernel_rfl) (by kernel_rfl) rfl (fun _ _ h_ => TL.off rfl rfl rfl (TL.nil h_)) ?_
    refine Plan.v 43 [44, 45, 46] (by kernel_rfl) (by kernel_rfl) (by kernel_rfl) (by kernel_rfl) rfl (fun _ _ h_ => TL.off rfl rfl rfl (TL.nil h_)) ?_
    refine Plan.v 44 [45, 46] (by kernel_rfl) (by kernel_rfl) (by kernel_rfl) (by kernel_rfl) rfl (fun _ _ h_ => TL.off rfl rfl rfl (TL.nil h_)) ?_
    refine Plan.v 45 [46] (by kernel_rfl) (by kernel_rfl) (by kernel_rfl) (by kernel_rfl) rfl (fun _ _ h_ => R.pkFE rfl rfl (by conv => lhs; whnf) (TL.nil h_)) ?_
    refine Plan.v 46 [] (by kernel_rfl) (by kernel_rfl) (by kernel_rfl) (by kernel_rfl) rfl (fun _ _ h_ => R.asE rfl (by conv => lhs; whnf) (TL.nil h_)) ?_
    refine Plan.done (Post.thnN ?_)
    refine T.has Has.nil ?_
    refine T.ret ?_
    have hM : windroselaw20_wakes_m = false := by subst er38; subst er32; subst er26; subst er19; subst er12; rw [windroselaw20_wakes_m, LR.seq_go, LR.seq_go, LR.seq_go, LR.seq_go, LR.seq_go, if_neg g43]
    exact fin1L (v := .bool false) [] rfl rfl (List.Sublist.refl _) ⟨rfl, by first | rw [hM] | rfl⟩

def windroselaw20_own_m (a0 : List (Int × (Bool × Bool × Int × Int × Int))) (a1 : List (Int × Int)) : (List (Int × (Bool × Bool × Int × Int × Int))) × (List (Int × Int)) :=
  ((a0.take ((min a0.length 12))), (a1.take ((min a1.length 16))))
set_option maxHeartbeats 3200000 in
theorem windroselaw20_own_c (H : Heap) (va0 : Value) (a0 : List (Int × (Bool × Bool × Int × Int × Int))) (ha0 : RdS relationE H va0 a0) (va1 : Value) (a1 : List (Int × Int)) (ha1 : RdS heldE H va1 a1) : Fc Tryd.prog (fnv 37) [va0, va1] H [] (fun v' H' L' => ∃ u0_0 u1_0 c0_0 c1_0, v' = .tuple #[u0_0, u1_0] ∧ L' = [c0_0, c1_0] ∧ OwnS relationE 78 H' u0_0 (windroselaw20_own_m a0 a1).1 c0_0 ∧ OwnS heldE 73 H' u1_0 (windroselaw20_own_m a0 a1).2 c1_0) := by
  refine Fc.of_body (N := 18) Tryd.func37 rfl (by kernel_rfl) rfl rfl ?_
  intro w0
  obtain ⟨Aa0, ca0, rfl, hca0, hda0, ha0⟩ := ha0.shape
  obtain ⟨Aa1, ca1, rfl, hca1, hda1, ha1⟩ := ha1.shape
  refine T.seq ?_
  refine T.region ?_
  refine R.asE rfl (by conv => lhs; whnf) ?_
  refine R.asE rfl (by conv => lhs; whnf) ?_
  refine TL.nil (Post.thnN ?_)
  refine T.seq ?_
  refine T.draw Tryd_mixed (by kernel_rfl) ?_
  refine Plan.v 0 [1, 2, 3, 4, 5, 6, 7, 8, 9, 10, 11, 12, 13] (by kernel_rfl) (by kernel_rfl) (by kernel_rfl) (by kernel_rfl) rfl (fun _ _ h_ => R.mvE rfl (by conv => lhs; whnf) (TL.nil h_)) ?_
  refine Plan.v 1 [2, 3, 4, 5, 6, 7, 8, 9, 10, 11, 12, 13] (by kernel_rfl) (by kernel_rfl) (by kernel_rfl) (by kernel_rfl) rfl (fun _ _ h_ => R.mvE rfl (by conv => lhs; whnf) (TL.nil h_)) ?_
  refine Plan.v 2 [3, 4, 5, 6, 7, 8, 9, 10, 11, 12, 13] (by kernel_rfl) (by kernel_rfl) (by kernel_rfl) (by kernel_rfl) rfl (fun _ _ h_ => R.len Tryd.underlying59 rfl rfl (TL.nil h_)) ?_
  refine Plan.v 3 [4, 5, 6, 7, 8, 9, 10, 11, 12, 13] (by kernel_rfl) (by kernel_rfl) (by kernel_rfl) (by kernel_rfl) rfl (fun _ _ h_ => R.min2 rfl rfl rfl (TL.nil h_)) ?_
  refine Plan.set 9 (.int .i64 ((min a0.length 12 : Nat) : Int)) (congrArg (Value.int .i64) (by split <;> omega)) ?_
  have z10 := RdS.takeC ha0 (i := (min a0.length 12)) (by omega) (by omega)
  obtain ⟨x10, e10⟩ : ∃ x, x = (a0.take ((min a0.length 12))) := ⟨_, rfl⟩
  rw [← e10] at z10
  obtain ⟨A10, p10, q10, m10, n10, r10⟩ := RdS.shape z10
  have t10 : x10.length ≤ a0.length := by rw [e10]; simp; try omega
  have t10_ : x10.length = min ((min a0.length 12)) a0.length := by rw [e10]; simp
  refine Plan.v 4 [5, 6, 7, 8, 9, 10, 11, 12, 13] (by kernel_rfl) (by kernel_rfl) (by kernel_rfl) (by kernel_rfl) rfl (fun _ _ h_ => R.sH Tryd.underlying59 Tryd.sizeOf78 rfl rfl rfl (by omega) (by omega)  (TL.nil h_)) ?_
  refine Plan.set 10 (.slice A10 x10.length p10) (by first | exact q10 | (rw [← q10]; simp; done) | (rw [← q10]; rfl)) ?_
  refine Plan.v 6 [5, 7, 8, 9, 10, 11, 12, 13] (by kernel_rfl) (by kernel_rfl) (by kernel_rfl) (by kernel_rfl) rfl (fun _ _ h_ => R.mvE rfl (by conv => lhs; whnf) (TL.nil h_)) ?_
  refine Plan.v 7 [5, 8, 9, 10, 11, 12, 13] (by kernel_rfl) (by kernel_rfl) (by kernel_rfl) (by kernel_rfl) rfl (fun _ _ h_ => R.mvE rfl (by conv => lhs; whnf) (TL.nil h_)) ?_
  refine Plan.v 8 [5, 9, 10, 11, 12, 13] (by kernel_rfl) (by kernel_rfl) (by kernel_rfl) (by kernel_rfl) rfl (fun _ _ h_ => R.len Tryd.underlying60 rfl rfl (TL.nil h_)) ?_
  refine Plan.v 9 [5, 10, 11, 12, 13] (by kernel_rfl) (by kernel_rfl) (by kernel_rfl) (by kernel_rfl) rfl (fun _ _ h_ => R.min2 rfl rfl rfl (TL.nil h_)) ?_
  refine Plan.set 15 (.int .i64 ((min a1.length 16 : Nat) : Int)) (congrArg (Value.int .i64) (by split <;> omega)) ?_
  have z16 := RdS.takeC ha1 (i := (min a1.length 16)) (by omega) (by omega)
  obtain ⟨x16, e16⟩ : ∃ x, x = (a1.take ((min a1.length 16))) := ⟨_, rfl⟩
  rw [← e16] at z16
  obtain ⟨A16, p16, q16, m16, n16, r16⟩ := RdS.shape z16
  have t16 : x16.length ≤ a1.length := by rw [e16]; simp; try omega
  have t16_ : x16.length = min ((min a1.length 16)) a1.length := by rw [e16]; simp
  refine Plan.v 10 [5, 11, 12, 13] (by kernel_rfl) (by kernel_rfl) (by kernel_rfl) (by kernel_rfl) rfl (fun _ _ h_ => R.sH Tryd.underlying60 Tryd.sizeOf73 rfl rfl rfl (by omega) (by omega)  (TL.nil h_)) ?_
  refine Plan.set 16 (.slice A16 x16.length p16) (by first | exact q16 | (rw [← q16]; simp; done) | (rw [← q16]; rfl)) ?_
  refine Plan.s1 5 [11, 12, 13] (by kernel_rfl) (by kernel_rfl) rfl ?_
  refine TL.call [] rfl rfl rfl (clone59_c _ _ x10 r10 (by first | omega | (simp; done) | (simp; omega) | (simp at *; omega))) ?_
  intro v11 H11 L11 s11 q11
  obtain ⟨c11, rfl, w11⟩ := q11
  obtain ⟨x11, e11⟩ : ∃ x, x = x10 := ⟨_, rfl⟩
  rw [← e11] at w11
  obtain ⟨A11, p11, rfl, m11, n11⟩ := OwnS.shape w11
  have t11 : x11.length = x10.length := by rw [e11]
  refine TL.nil (Plan.e1 (s11) ?_)
  refine Plan.s1 11 [12, 13] (by kernel_rfl) (by kernel_rfl) rfl ?_
  refine TL.call [] rfl rfl rfl (clone60_c _ _ x16 (r16.mono s11) (by first | omega | (simp; done) | (simp; omega) | (simp at *; omega))) ?_
  intro v17 H17 L17 s17 q17
  obtain ⟨c17, rfl, w17⟩ := q17
  obtain ⟨x17, e17⟩ : ∃ x, x = x16 := ⟨_, rfl⟩
  rw [← e17] at w17
  obtain ⟨A17, p17, rfl, m17, n17⟩ := OwnS.shape w17
  have t17 : x17.length = x16.length := by rw [e17]
  refine TL.nil (Plan.e1 (s17) ?_)
  refine Plan.v 12 [13] (by kernel_rfl) (by kernel_rfl) (by kernel_rfl) (by kernel_rfl) rfl (fun _ _ h_ => R.asE rfl (by conv => lhs; whnf) (TL.nil h_)) ?_
  refine Plan.v 13 [] (by kernel_rfl) (by kernel_rfl) (by kernel_rfl) (by kernel_rfl) rfl (fun _ _ h_ => R.asE rfl (by conv => lhs; whnf) (TL.nil h_)) ?_
  refine Plan.done (Post.thnN ?_)
  refine T.has (Has.cons (.tl .hd) (Has.cons .hd Has.nil)) ?_
  refine T.ret ?_
  have hM : windroselaw20_own_m a0 a1 = (x11, x17) := by subst e17; subst e11; subst e16; subst e10; rw [windroselaw20_own_m]
  exact fin2L (v := .slice A11 x11.length p11) (v' := .slice A17 x17.length p17) [c11, c17] rfl rfl rfl (List.Sublist.refl _) ⟨.slice A11 x11.length p11, .slice A17 x17.length p17, c11, c17, by first | rw [hM] | rfl, rfl, by rw [hM]; exact (OwnS.mono w11 s17), by rw [hM]; exact w17⟩

def windroselaw20_few_m (a0 : List Int) : (List Int) :=
  (a0.take ((min a0.length 6)))
set_option maxHeartbeats 3200000 in
theorem windroselaw20_few_c (H : Heap) (va0 : Value) (a0 : List Int) (ha0 : RdS (intE .i64) H va0 a0) : Fc Tryd.prog (fnv 45) [va0] H [] (fun v' H' L' => ∃ u0_0 c0_0, v' = u0_0 ∧ L' = [c0_0] ∧ OwnS (intE .i64) 3 H' u0_0 (windroselaw20_few_m a0) c0_0) := by
  refine Fc.of_body (N := 9) Tryd.func45 rfl (by kernel_rfl) rfl rfl ?_
  intro w0
  obtain ⟨Aa0, ca0, rfl, hca0, hda0, ha0⟩ := ha0.shape
  refine T.seq ?_
  refine T.region ?_
  refine R.asE rfl (by conv => lhs; whnf) ?_
  refine TL.nil (Post.thnN ?_)
  refine T.seq ?_
  refine T.region ?_
  refine R.mvE rfl (by conv => lhs; whnf) ?_
  refine R.mvE rfl (by conv => lhs; whnf) ?_
  refine R.len Tryd.underlying23 rfl rfl ?_
  refine R.min2 rfl rfl rfl ?_
  refine TL.set 6 (.int .i64 ((min a0.length 6 : Nat) : Int)) (congrArg (Value.int .i64) (by split <;> omega)) ?_
  have z7 := RdS.takeC ha0 (i := (min a0.length 6)) (by omega) (by omega)
  obtain ⟨x7, e7⟩ : ∃ x, x = (a0.take ((min a0.length 6))) := ⟨_, rfl⟩
  rw [← e7] at z7
  obtain ⟨A7, p7, q7, m7, n7, r7⟩ := RdS.shape z7
  have t7 : x7.length ≤ a0.length := by rw [e7]; simp; try omega
  have t7_ : x7.length = min ((min a0.length 6)) a0.length := by rw [e7]; simp
  refine R.sH Tryd.underlying23 Tryd.sizeOf3 rfl rfl rfl (by omega) (by omega)  ?_
  refine TL.set 7 (.slice A7 x7.length p7) (by first | exact q7 | (rw [← q7]; simp; done) | (rw [← q7]; rfl)) ?_
  refine TL.call [] rfl rfl rfl (clone23_c _ _ x7 r7 (by first | omega | (simp; done) | (simp; omega) | (simp at *; omega))) ?_
  intro v8 H8 L8 s8 q8
  obtain ⟨c8, rfl, w8⟩ := q8
  obtain ⟨x8, e8⟩ : ∃ x, x = x7 := ⟨_, rfl⟩
  rw [← e8] at w8
  obtain ⟨A8, p8, rfl, m8, n8⟩ := OwnS.shape w8
  have t8 : x8.length = x7.length := by rw [e8]
  refine R.asE rfl (by conv => lhs; whnf) ?_
  refine TL.nil (Post.thnN ?_)
  refine T.has (Has.cons .hd Has.nil) ?_
  refine T.ret ?_
  have hM : windroselaw20_few_m a0 = x8 := by subst e8; subst e7; rw [windroselaw20_few_m]
  exact fin1L (v := .slice A8 x8.length p8) [c8] rfl rfl (List.Sublist.refl _) ⟨.slice A8 x8.length p8, c8, by first | rw [hM] | rfl, rfl, by rw [hM]; exact w8⟩

def windroselaw20_mentions_m (a0 : Int × Int) (a1 : Int) : Bool :=
  LR.seq (ident_Parts_m a0.2) (fun r10 => if r10.1 = a1 then true else ((decide (r10.2 = a1))))
set_option maxHeartbeats 3200000 in
theorem windroselaw20_mentions_c (H : Heap) (a0 : Int × Int) (a1 : Int) : Fv Tryd.prog (fnv 48) [.agg #[.int .i64 a0.1, .int .u64 a0.2], .int .i64 a1] H (.bool (windroselaw20_mentions_m a0 a1)) := by
  refine Fc.of_body (N := 21) Tryd.func48 rfl (by kernel_rfl) rfl rfl ?_
  intro w0
  refine T.seq ?_
  refine T.region ?_
  refine R.box rfl (by conv => lhs; whnf) ?_
  intro b2
  refine R.asE rfl (by conv => lhs; whnf) ?_
  refine TL.shut .hd ?_
  intro Hb2_1 sb2_1 qb2_1
  have hb2_1 : Hb2_1 b2 = some (.cells #[.int .i64 (a0.1), .int .u64 (a0.2)] 73) := shut1 qb2_1
  refine TL.nil (Post.thnN ?_)
  refine T.seq ?_
  refine T.region ?_
  refine R.fldA Tryd.underlying73 rfl Tryd.sizeOf32 (by decide) rfl rfl ?_
  refine R.ldH Tryd.isAgg32 rfl rfl hb2_1 rfl ?_
  obtain ⟨r10, er10⟩ : ∃ r, r = (ident_Parts_m a0.2) := ⟨_, rfl⟩
  refine R.callv (v := .tuple #[.int .i64 r10.1, .int .i64 r10.2]) rfl rfl rfl (by rw [er10]; exact ident_Parts_c _ (a0.2)) ?_
  refine R.mvE rfl (by conv => lhs; whnf) ?_
  refine R.ext rfl rfl rfl ?_
  refine R.ext rfl rfl rfl ?_
  refine R.asE rfl (by conv => lhs; whnf) ?_
  refine R.asE rfl (by conv => lhs; whnf) ?_
  refine TL.nil (Post.thnN ?_)
  refine T.seq ?_
  refine T.region ?_
  refine R.mvE rfl (by conv => lhs; whnf) ?_
  refine R.mvE rfl (by conv => lhs; whnf) ?_
  refine R.eql rfl rfl rfl ?_
  refine R.mvE rfl (by conv => lhs; whnf) ?_
  refine TL.gsplitD 16 rfl (fun g16 => ?_) (fun g16 => ?_)
  · refine TL.off rfl rfl rfl ?_
    refine TL.off rfl rfl rfl ?_
    refine TL.off rfl rfl rfl ?_
    refine R.pkTE rfl rfl (by conv => lhs; whnf) ?_
    refine R.asE rfl (by conv => lhs; whnf) ?_
    refine TL.nil (Post.thnN ?_)
    refine T.has Has.nil ?_
    refine T.ret ?_
    have hM : windroselaw20_mentions_m a0 a1 = true := by subst er10; rw [windroselaw20_mentions_m, LR.seq_go, if_pos g16]
    exact fin1L (v := .bool true) [] rfl rfl (List.Sublist.refl _) ⟨rfl, by first | rw [hM] | rfl⟩
  · refine R.mvE rfl (by conv => lhs; whnf) ?_
    refine R.mvE rfl (by conv => lhs; whnf) ?_
    refine R.eql rfl rfl rfl ?_
    refine R.pkFE rfl rfl (by conv => lhs; whnf) ?_
    refine R.asE rfl (by conv => lhs; whnf) ?_
    refine TL.nil (Post.thnN ?_)
    refine T.has Has.nil ?_
    refine T.ret ?_
    have hM : windroselaw20_mentions_m a0 a1 = (decide (r10.2 = a1)) := by subst er10; rw [windroselaw20_mentions_m, LR.seq_go, if_neg g16]
    exact fin1L (v := .bool (decide (r10.2 = a1))) [] rfl rfl (List.Sublist.refl _) ⟨rfl, by first | rw [hM] | rfl⟩

def windroselaw20_PlanTouches_l2 (r26 : (List (Int × (Bool × Bool × Int × Int × Int))) × (List (Int × Int))) (r34 : ((List Int) × (List (Int × Int)) × (List (Int × Int))) × Int) (yl1 : Int × Int) : List Int → Bool → LR (LR (Bool) (Unit)) (Bool)
  | [], sl2 => .go sl2
  | yl2 :: ysl2, sl2 => if (!(windroselaw20_mentions_m yl1 yl2)) = true then (windroselaw20_PlanTouches_l2 r26 r34 yl1 ysl2 sl2) else (LR.seq (trait_Policy_m r26.1 yl1.2 yl2) (fun r82 => LR.seq (if (!r82.2) = true then true else (if ¬ (yl1.1 ∈ r34.1.1) then (if r82.1 = 1 then true else (if ¬ (yl1.1 ∈ r34.1.1) then (if r82.1 = 2 then (if ¬ (yl1 ∈ r34.1.2.2) then true else (if ¬ (yl1.1 ∈ r34.1.1) then (if r82.1 = 0 then ((decide (¬ (yl1 ∈ r34.1.2.1)))) else false) else false)) else (if ¬ (yl1.1 ∈ r34.1.1) then (if r82.1 = 0 then ((decide (¬ (yl1 ∈ r34.1.2.1)))) else false) else false)) else (if ¬ (yl1.1 ∈ r34.1.1) then (if r82.1 = 0 then ((decide (¬ (yl1 ∈ r34.1.2.1)))) else false) else false))) else (if ¬ (yl1.1 ∈ r34.1.1) then (if r82.1 = 2 then (if ¬ (yl1 ∈ r34.1.2.2) then true else (if ¬ (yl1.1 ∈ r34.1.1) then (if r82.1 = 0 then ((decide (¬ (yl1 ∈ r34.1.2.1)))) else false) else false)) else (if ¬ (yl1.1 ∈ r34.1.1) then (if r82.1 = 0 then ((decide (¬ (yl1 ∈ r34.1.2.1)))) else false) else false)) else (if ¬ (yl1.1 ∈ r34.1.1) then (if r82.1 = 0 then ((decide (¬ (yl1 ∈ r34.1.2.1)))) else false) else false))) : Bool) (fun sc3 => if sc3 = true then (.ret (.ret false)) else (windroselaw20_PlanTouches_l2 r26 r34 yl1 ysl2 true))))
def windroselaw20_PlanTouches_l1 (r26 : (List (Int × (Bool × Bool × Int × Int × Int))) × (List (Int × Int))) (r34 : ((List Int) × (List (Int × Int)) × (List (Int × Int))) × Int) : List (Int × Int) → Unit → LR (Bool) (Unit)
  | [], sl1 => .go ()
  | yl1 :: ysl1, sl1 => LR.on (windroselaw20_PlanTouches_l2 r26 r34 yl1 r34.1.1 false) (fun r => r) (fun ol2 => LR.seq (if ol2 = true then (if ((decide (yl1 ∈ r34.1.2.1)) != (decide (¬ (yl1.1 ∈ r34.1.1)))) = true then true else (if yl1 ∈ r34.1.2.2 then ((decide (¬ (yl1 ∈ r34.1.2.1)))) else false)) else (if ((decide (yl1 ∈ r34.1.2.1)) != false) = true then true else (if yl1 ∈ r34.1.2.2 then ((decide (¬ (yl1 ∈ r34.1.2.1)))) else false)) : Bool) (fun sc4 => if sc4 = true then (.ret false) else (windroselaw20_PlanTouches_l1 r26 r34 ysl1 ())))
def windroselaw20_PlanTouches_m (a0 : List (Int × (Bool × Bool × Int × Int × Int))) (a1 : List (Int × Int)) (a2 : List Int) : Bool :=
  if (!windroselaw20_wakes_m) = true then false else (LR.seq (windroselaw20_own_m a0 a1) (fun r26 => LR.seq (windroselaw20_few_m a2) (fun r33 => LR.seq (plan_Of_m r26.1 r26.2 r33) (fun r34 => if r34.2 ≠ 0 then ((decide ((((r34.1.2.1.length : Int) + (r34.1.2.2.length : Int)) : Int) = 0))) else (LR.on (windroselaw20_PlanTouches_l1 r26 r34 r26.2 ()) (fun r => r) (fun ol1 => (decide ((r34.1.2.2.length : Int) ≤ (r34.1.2.1.length : Int)))))))))
set_option maxHeartbeats 3200000 in
theorem windroselaw20_PlanTouches_c (H : Heap) {tG1 : TypeId} (hG1 : H 1 = some (.cells #[.int .i64 1, .bool true, .bool true, .int .i64 0, .int .i64 1, .int .i64 2, .int .i64 2, .bool true, .bool false, .int .i64 0, .int .i64 0, .int .i64 2] tG1)) (va0 : Value) (a0 : List (Int × (Bool × Bool × Int × Int × Int))) (ha0 : RdS relationE H va0 a0) (va1 : Value) (a1 : List (Int × Int)) (ha1 : RdS heldE H va1 a1) (va2 : Value) (a2 : List Int) (ha2 : RdS (intE .i64) H va2 a2) : Fv Tryd.prog (fnv 10) [va0, va1, va2] H (.bool (windroselaw20_PlanTouches_m a0 a1 a2)) := by
  refine Fc.of_body (N := 142) Tryd.func10 rfl (by kernel_rfl) rfl rfl ?_
  intro w0
  obtain ⟨Aa0, ca0, rfl, hca0, hda0, ha0⟩ := ha0.shape
  obtain ⟨Aa1, ca1, rfl, hca1, hda1, ha1⟩ := ha1.shape
  obtain ⟨Aa2, ca2, rfl, hca2, hda2, ha2⟩ := ha2.shape
  refine T.seq ?_
  refine T.region ?_
  refine R.asE rfl (by conv => lhs; whnf) ?_
  refine TL.nil (Post.thnN ?_)
  refine T.seq ?_
  refine T.seq ?_
  refine T.region ?_
  refine R.callv rfl rfl rfl (windroselaw20_wakes_c _ hG1) ?_
  refine R.not rfl rfl ?_
  refine TL.nil (Post.thnN ?_)
  refine T.cond rfl (fun c22 => ?_) (fun c22 => ?_)
  · refine T.set 22 (.bool true) (congrArg Value.bool c22) ?_
    refine T.seq ?_
    refine T.region ?_
    refine R.asE rfl (by conv => lhs; whnf) ?_
    refine TL.nil (Post.thnN ?_)
    refine T.has Has.nil ?_
    refine T.ret (Post.thnR ?_)
    have hM : windroselaw20_PlanTouches_m a0 a1 a2 = false := by rw [windroselaw20_PlanTouches_m, if_t c22]
    exact fin1L (v := .bool false) [] rfl rfl (List.Sublist.refl _) ⟨rfl, by first | rw [hM] | rfl⟩
  · refine T.set 22 (.bool false) (congrArg Value.bool c22) ?_
    refine T.skip (Post.thnN ?_)
    refine T.seq ?_
    refine T.region ?_
    refine R.mvE rfl (by conv => lhs; whnf) ?_
    refine R.mvE rfl (by conv => lhs; whnf) ?_
    obtain ⟨r26, er26⟩ : ∃ r, r = (windroselaw20_own_m a0 a1) := ⟨_, rfl⟩
    refine TL.call [] rfl rfl rfl (windroselaw20_own_c _ _ a0 ha0 _ a1 ha1) ?_
    intro v26 H26 L26 s26 q26
    rw [← er26] at q26
    obtain ⟨u26_0_0, u26_1_0, c26_0_0, c26_1_0, rfl, rfl, w26_0_0, w26_1_0⟩ := q26
    obtain ⟨A26_0_0, p26_0_0, rfl, m26_0_0, n26_0_0⟩ := OwnS.shape w26_0_0
    obtain ⟨A26_1_0, p26_1_0, rfl, m26_1_0, n26_1_0⟩ := OwnS.shape w26_1_0
    have tq26 : r26.1.length ≤ 12 ∧ r26.2.length ≤ 16 := by rw [er26]; simp only [windroselaw20_own_m, List.length_take]; omega
    refine R.mvE rfl (by conv => lhs; whnf) ?_
    refine R.ext rfl rfl rfl ?_
    refine R.ext rfl rfl rfl ?_
    refine R.asE rfl (by conv => lhs; whnf) ?_
    refine R.asE rfl (by conv => lhs; whnf) ?_
    refine TL.nil (Post.thnN ?_)
    refine T.seq ?_
    refine T.region ?_
    refine R.mvE rfl (by conv => lhs; whnf) ?_
    refine R.mvE rfl (by conv => lhs; whnf) ?_
    refine R.mvE rfl (by conv => lhs; whnf) ?_
    obtain ⟨r33, er33⟩ : ∃ r, r = (windroselaw20_few_m a2) := ⟨_, rfl⟩
    refine TL.call [] rfl rfl rfl (windroselaw20_few_c _ _ a2 (ha2.mono s26)) ?_
    intro v33 H33 L33 s33 q33
    rw [← er33] at q33
    obtain ⟨u33_0_0, c33_0_0, rfl, rfl, w33_0_0⟩ := q33
    obtain ⟨A33_0_0, p33_0_0, rfl, m33_0_0, n33_0_0⟩ := OwnS.shape w33_0_0
    have tq33 : r33.length ≤ 6 := by rw [er33]; simp only [windroselaw20_few_m, List.length_take]; omega
    refine TL.shut (.tl .hd) ?_
    intro HF26_0_0_1 sF26_0_0_1 qF26_0_0_1
    have fF26_0_0_1 := OwnS.read (OwnS.mono w26_0_0 s33) sF26_0_0_1 qF26_0_0_1
    refine TL.shut (.tl .hd) ?_
    intro HF26_1_0_2 sF26_1_0_2 qF26_1_0_2
    have fF26_1_0_2 := OwnS.read (OwnS.mono w26_1_0 (s33.trans sF26_0_0_1)) sF26_1_0_2 qF26_1_0_2
    refine TL.shut .hd ?_
    intro HF33_0_0_3 sF33_0_0_3 qF33_0_0_3
    have fF33_0_0_3 := OwnS.read (OwnS.mono w33_0_0 (sF26_0_0_1.trans sF26_1_0_2)) sF33_0_0_3 qF33_0_0_3
    obtain ⟨r34, er34⟩ : ∃ r, r = (plan_Of_m r26.1 r26.2 r33) := ⟨_, rfl⟩
    refine TL.call [] rfl rfl rfl (plan_Of_c _ ((s26.trans (s33.trans (sF26_0_0_1.trans (sF26_1_0_2.trans sF33_0_0_3)))) _ _ hG1) _ r26.1 (fF26_0_0_1.mono (sF26_1_0_2.trans sF33_0_0_3)) _ r26.2 (fF26_1_0_2.mono sF33_0_0_3) _ r33 fF33_0_0_3 (by first | omega | (simp; done) | (simp; omega) | (simp at *; omega)) (by first | omega | (simp; done) | (simp; omega) | (simp at *; omega)) (by first | omega | (simp; done) | (simp; omega) | (simp at *; omega))) ?_
    intro v34 H34 L34 s34 q34
    rw [← er34] at q34
    obtain ⟨u34_0_0, u34_0_1, u34_0_2, c34_0_0, c34_0_1, c34_0_2, rfl, rfl, w34_0_0, w34_0_1, w34_0_2⟩ := q34
    obtain ⟨A34_0_0, p34_0_0, rfl, m34_0_0, n34_0_0⟩ := OwnS.shape w34_0_0
    obtain ⟨A34_0_1, p34_0_1, rfl, m34_0_1, n34_0_1⟩ := OwnS.shape w34_0_1
    obtain ⟨A34_0_2, p34_0_2, rfl, m34_0_2, n34_0_2⟩ := OwnS.shape w34_0_2
    have to34 := of_len _ _ _ _ er34 (by first | omega | (simp; done) | (simp; omega) | (simp at *; omega)) (by first | omega | (simp; done) | (simp; omega) | (simp at *; omega))
    refine R.mvE rfl (by conv => lhs; whnf) ?_
    refine R.ext rfl rfl rfl ?_
    refine R.ext rfl rfl rfl ?_
    refine R.alloc Tryd.zeroValue81 rfl ?_
    intro b9
    refine R.stX (old := [.slice none 0 0, .slice none 0 0, .slice none 0 0]) (l := [.slice A34_0_0 r34.1.1.length p34_0_0, .slice A34_0_1 r34.1.2.1.length p34_0_1, .slice A34_0_2 r34.1.2.2.length p34_0_2]) (new := [.slice A34_0_0 r34.1.1.length p34_0_0, .slice A34_0_1 r34.1.2.1.length p34_0_1, .slice A34_0_2 r34.1.2.2.length p34_0_2]) (et := 81) Tryd.sizeOf81 rfl rfl rfl rfl rfl (by show 0 + 3 ≤ 3; decide) rfl (all_one rfl) .hd ?_
    refine R.asE rfl (by conv => lhs; whnf) ?_
    refine TL.shut (.tl .hd) ?_
    intro HF34_0_0_4 sF34_0_0_4 qF34_0_0_4
    have fF34_0_0_4 := OwnS.read w34_0_0 sF34_0_0_4 qF34_0_0_4
    refine TL.shut (.tl .hd) ?_
    intro HF34_0_1_5 sF34_0_1_5 qF34_0_1_5
    have fF34_0_1_5 := OwnS.read (OwnS.mono w34_0_1 sF34_0_0_4) sF34_0_1_5 qF34_0_1_5
    refine TL.shut (.tl .hd) ?_
    intro HF34_0_2_6 sF34_0_2_6 qF34_0_2_6
    have fF34_0_2_6 := OwnS.read (OwnS.mono w34_0_2 (sF34_0_0_4.trans sF34_0_1_5)) sF34_0_2_6 qF34_0_2_6
    refine TL.shut .hd ?_
    intro Hb9_7 sb9_7 qb9_7
    have hb9_7 : Hb9_7 b9 = some (.cells #[.slice A34_0_0 r34.1.1.length p34_0_0, .slice A34_0_1 r34.1.2.1.length p34_0_1, .slice A34_0_2 r34.1.2.2.length p34_0_2] 81) := shut1 qb9_7
    refine TL.nil (Post.thnN ?_)
    refine T.seq ?_
    refine T.seq ?_
    refine T.region ?_
    refine R.mvE rfl (by conv => lhs; whnf) ?_
    refine R.neq rfl rfl rfl ?_
    refine TL.nil (Post.thnN ?_)
    refine T.condD rfl (fun c38 => ?_) (fun c38 => ?_)
    · refine T.set 38 (.bool true) (congrArg Value.bool (decide_eq_true c38)) ?_
      refine T.seq ?_
      refine T.region ?_
      refine R.fldA Tryd.underlying81 rfl Tryd.sizeOf60 (by decide) rfl rfl ?_
      refine R.ldH Tryd.isAgg60 rfl rfl hb9_7 rfl ?_
      refine R.len Tryd.underlying60 rfl rfl ?_
      refine R.fldA Tryd.underlying81 rfl Tryd.sizeOf60 (by decide) rfl rfl ?_
      refine R.ldH Tryd.isAgg60 rfl rfl hb9_7 rfl ?_
      refine R.len Tryd.underlying60 rfl rfl ?_
      refine R.addI rfl rfl rfl (by omega) ?_
      refine R.eql rfl rfl rfl ?_
      refine R.asE rfl (by conv => lhs; whnf) ?_
      refine TL.nil (Post.thnN ?_)
      refine T.has Has.nil ?_
      refine T.ret (Post.thnR ?_)
      have hM : windroselaw20_PlanTouches_m a0 a1 a2 = (decide ((((r34.1.2.1.length : Int) + (r34.1.2.2.length : Int)) : Int) = 0)) := by subst er34; subst er33; subst er26; rw [windroselaw20_PlanTouches_m, if_f c22, LR.seq_go, LR.seq_go, LR.seq_go, if_pos c38]
      exact fin1L (v := .bool (decide ((((r34.1.2.1.length : Int) + (r34.1.2.2.length : Int)) : Int) = 0))) [] rfl rfl (List.Sublist.refl _) ⟨rfl, by first | rw [hM] | rfl⟩
    · refine T.set 38 (.bool false) (congrArg Value.bool (decide_eq_false c38)) ?_
      refine T.skip (Post.thnN ?_)
      refine T.seq ?_
      refine T.seq ?_
      refine T.region ?_
      refine R.mvE rfl (by conv => lhs; whnf) ?_
      refine R.len Tryd.underlying60 rfl rfl ?_
      refine R.mvE rfl (by conv => lhs; whnf) ?_
      refine TL.nil (Post.thnN ?_)
      refine T.block ?_
      refine T.loop (ι := Nat) (fun kl1 H' L' ds' => kl1 ≤ r26.2.length ∧ Has L' [] ∧ windroselaw20_PlanTouches_l1 r26 r34 (r26.2.drop kl1) () = windroselaw20_PlanTouches_l1 r26 r34 r26.2 ()) (fun kl1 => [(49, .int .i64 (kl1 : Int)), (7, .slice A26_0_0 r26.1.length p26_0_0), (9, .pointer (some ⟨b9, 0, none⟩)), (47, .slice A26_1_0 r26.2.length p26_1_0), (48, .int .i64 (r26.2.length : Int))]) (fun kl1 => r26.2.length - kl1) 0 ?_ ?_ ?_
      · exact ⟨(by omega), Has.nil, (by rfl)⟩
      · exact ⟨rfl, rfl, rfl, rfl, rfl, trivial⟩
      · intro kl1 σ_l1 H_l1 L_l1 ds_l1 s_l1 hI_l1
        obtain ⟨hkl1, hI_l1⟩ := hI_l1
        obtain ⟨hLl1, hQl1⟩ := hI_l1
        refine T.has hLl1 ?_
        refine T.seq ?_
        refine T.region ?_
        refine R.lss rfl rfl rfl ?_
        refine TL.nil (Post.thnN ?_)
        refine T.seq ?_
        refine T.condD rfl (fun c50 => ?_) (fun c50 => ?_)
        · have hltl1 : kl1 < r26.2.length := by omega
          obtain ⟨yl1, hyl1⟩ := getk (xs := r26.2) (k := kl1) (by omega)
          refine T.skip (Post.thnN ?_)
          refine T.seq ?_
          refine T.block ?_
          refine T.seq ?_
          refine T.region ?_
          obtain ⟨b51, o51, i51, k51⟩ := RdS.elem (fF26_1_0_2.mono (sF33_0_0_3.trans (s34.trans (sF34_0_0_4.trans (sF34_0_1_5.trans (sF34_0_2_6.trans (sb9_7.trans s_l1))))))) hyl1
          obtain ⟨l51, g51, k51⟩ := k51
          obtain rfl : l51 = [.int .i64 (yl1.1), .int .u64 (yl1.2)] := g51
          refine R.ixp Tryd.underlying60 Tryd.sizeOf73 rfl rfl rfl (by omega) i51 ?_
          refine R.ldK (l := [.int .i64 (yl1.1), .int .u64 (yl1.2)]) Tryd.isAgg73 Tryd.sizeOf73 rfl rfl k51 rfl ?_
          refine R.alloc Tryd.zeroValue73 rfl ?_
          intro b12
          refine R.stX (old := [.int .i64 0, .int .u64 0]) (l := [.int .i64 (yl1.1), .int .u64 (yl1.2)]) (new := [.int .i64 (yl1.1), .int .u64 (yl1.2)]) (et := 73) Tryd.sizeOf73 rfl rfl rfl rfl rfl (by show 0 + 2 ≤ 2; decide) rfl (all_one rfl) .hd ?_
          refine TL.shut .hd ?_
          intro Hb12_8 sb12_8 qb12_8
          have hb12_8 : Hb12_8 b12 = some (.cells #[.int .i64 (yl1.1), .int .u64 (yl1.2)] 73) := shut1 qb12_8
          refine TL.nil (Post.thnN ?_)
          refine T.seq ?_
          refine T.region ?_
          refine R.fldA Tryd.underlying81 rfl Tryd.sizeOf23 (by decide) rfl rfl ?_
          refine R.ldH Tryd.isAgg23 rfl rfl ((s_l1.trans sb12_8) _ _ hb9_7) rfl ?_
          refine R.fldA Tryd.underlying73 rfl Tryd.sizeOf3 (by decide) rfl rfl ?_
          refine R.ldH Tryd.isAgg3 rfl rfl hb12_8 rfl ?_
          refine R.callv rfl rfl rfl (slices_Contains_int_d _ _ r34.1.1 (fF34_0_0_4.mono (sF34_0_1_5.trans (sF34_0_2_6.trans (sb9_7.trans (s_l1.trans sb12_8))))) yl1.1) ?_
          refine R.asE rfl (by conv => lhs; whnf) ?_
          refine TL.nil (Post.thnN ?_)
          refine T.seq ?_
          refine T.draw Tryd_mixed (by kernel_rfl) ?_
          refine Plan.v 0 [1, 2, 3, 4, 5, 6, 7, 8, 9] (by kernel_rfl) (by kernel_rfl) (by kernel_rfl) (by kernel_rfl) rfl (fun _ _ h_ => R.fldA Tryd.underlying81 rfl Tryd.sizeOf60 (by decide) rfl rfl (TL.nil h_)) ?_
          refine Plan.v 1 [2, 3, 4, 5, 6, 7, 8, 9] (by kernel_rfl) (by kernel_rfl) (by kernel_rfl) (by kernel_rfl) rfl (fun _ _ h_ => R.ldH Tryd.isAgg60 rfl rfl ((s_l1.trans sb12_8) _ _ hb9_7) rfl (TL.nil h_)) ?_
          refine Plan.v 2 [3, 4, 5, 6, 7, 8, 9] (by kernel_rfl) (by kernel_rfl) (by kernel_rfl) (by kernel_rfl) rfl (fun _ _ h_ => R.ldXH (cs := [.int .i64 (yl1.1), .int .u64 (yl1.2)]) (l := [.int .i64 (yl1.1), .int .u64 (yl1.2)]) Tryd.isAgg73 Tryd.sizeOf73 rfl rfl hb12_8 rfl rfl (TL.nil h_)) ?_
          refine Plan.v 3 [4, 5, 6, 7, 8, 9] (by kernel_rfl) (by kernel_rfl) (by kernel_rfl) (by kernel_rfl) rfl (fun _ _ h_ => R.callv rfl rfl rfl (slices_Contains_Held_d _ _ r34.1.2.1 (fF34_0_1_5.mono (sF34_0_2_6.trans (sb9_7.trans (s_l1.trans sb12_8)))) yl1) (TL.nil h_)) ?_
          refine Plan.v 4 [5, 6, 7, 8, 9] (by kernel_rfl) (by kernel_rfl) (by kernel_rfl) (by kernel_rfl) rfl (fun _ _ h_ => R.fldA Tryd.underlying81 rfl Tryd.sizeOf60 (by decide) rfl rfl (TL.nil h_)) ?_
          refine Plan.v 5 [6, 7, 8, 9] (by kernel_rfl) (by kernel_rfl) (by kernel_rfl) (by kernel_rfl) rfl (fun _ _ h_ => R.ldH Tryd.isAgg60 rfl rfl ((s_l1.trans sb12_8) _ _ hb9_7) rfl (TL.nil h_)) ?_
          refine Plan.v 6 [7, 8, 9] (by kernel_rfl) (by kernel_rfl) (by kernel_rfl) (by kernel_rfl) rfl (fun _ _ h_ => R.ldXH (cs := [.int .i64 (yl1.1), .int .u64 (yl1.2)]) (l := [.int .i64 (yl1.1), .int .u64 (yl1.2)]) Tryd.isAgg73 Tryd.sizeOf73 rfl rfl hb12_8 rfl rfl (TL.nil h_)) ?_
          refine Plan.v 7 [8, 9] (by kernel_rfl) (by kernel_rfl) (by kernel_rfl) (by kernel_rfl) rfl (fun _ _ h_ => R.callv rfl rfl rfl (slices_Contains_Held_d _ _ r34.1.2.2 (fF34_0_2_6.mono (sb9_7.trans (s_l1.trans sb12_8))) yl1) (TL.nil h_)) ?_
          refine Plan.v 8 [9] (by kernel_rfl) (by kernel_rfl) (by kernel_rfl) (by kernel_rfl) rfl (fun _ _ h_ => R.asE rfl (by conv => lhs; whnf) (TL.nil h_)) ?_
          refine Plan.v 9 [] (by kernel_rfl) (by kernel_rfl) (by kernel_rfl) (by kernel_rfl) rfl (fun _ _ h_ => R.asE rfl (by conv => lhs; whnf) (TL.nil h_)) ?_
          refine Plan.done (Post.thnN ?_)
          refine T.seq ?_
          refine T.region ?_
          refine R.asE rfl (by conv => lhs; whnf) ?_
          refine TL.nil (Post.thnN ?_)
          refine T.seq ?_
          refine T.seq ?_
          refine T.region ?_
          refine R.fldA Tryd.underlying81 rfl Tryd.sizeOf23 (by decide) rfl rfl ?_
          refine R.ldH Tryd.isAgg23 rfl rfl ((s_l1.trans sb12_8) _ _ hb9_7) rfl ?_
          refine R.len Tryd.underlying23 rfl rfl ?_
          refine R.mvE rfl (by conv => lhs; whnf) ?_
          refine TL.nil (Post.thnN ?_)
          refine T.block ?_
          refine T.loop (ι := Nat × Bool) (fun ⟨kl2, b16l2⟩ H' L' ds' => kl2 ≤ r34.1.1.length ∧ Has L' [] ∧ windroselaw20_PlanTouches_l2 r26 r34 yl1 (r34.1.1.drop kl2) b16l2 = windroselaw20_PlanTouches_l2 r26 r34 yl1 r34.1.1 false) (fun ⟨kl2, b16l2⟩ => [(69, .int .i64 (kl2 : Int)), (7, .slice A26_0_0 r26.1.length p26_0_0), (9, .pointer (some ⟨b9, 0, none⟩)), (12, .pointer (some ⟨b12, 0, none⟩)), (13, .bool (decide (yl1.1 ∈ r34.1.1))), (14, .bool (decide (yl1 ∈ r34.1.2.1))), (15, .bool (decide (yl1 ∈ r34.1.2.2))), (16, .bool (b16l2)), (47, .slice A26_1_0 r26.2.length p26_1_0), (48, .int .i64 (r26.2.length : Int)), (49, .int .i64 (kl1 : Int)), (67, .slice A34_0_0 r34.1.1.length p34_0_0), (68, .int .i64 (r34.1.1.length : Int))]) (fun ⟨kl2, b16l2⟩ => r34.1.1.length - kl2) (0, false) ?_ ?_ ?_
          · exact ⟨(by omega), Has.nil, (by rfl)⟩
          · exact ⟨rfl, rfl, rfl, rfl, rfl, rfl, rfl, rfl, rfl, rfl, rfl, rfl, rfl, trivial⟩
          · intro ⟨kl2, b16l2⟩ σ_l2 H_l2 L_l2 ds_l2 s_l2 hI_l2
            obtain ⟨hkl2, hI_l2⟩ := hI_l2
            obtain ⟨hLl2, hQl2⟩ := hI_l2
            refine T.has hLl2 ?_
            refine T.seq ?_
            refine T.region ?_
            refine R.lss rfl rfl rfl ?_
            refine TL.nil (Post.thnN ?_)
            refine T.seq ?_
            refine T.condD rfl (fun c70 => ?_) (fun c70 => ?_)
            · have hltl2 : kl2 < r34.1.1.length := by omega
              obtain ⟨yl2, hyl2⟩ := getk (xs := r34.1.1) (k := kl2) (by omega)
              refine T.skip (Post.thnN ?_)
              refine T.seq ?_
              refine T.block ?_
              refine T.seq ?_
              refine T.region ?_
              obtain ⟨b71, o71, i71, k71⟩ := RdS.elem (fF34_0_0_4.mono (sF34_0_1_5.trans (sF34_0_2_6.trans (sb9_7.trans (s_l1.trans (sb12_8.trans s_l2)))))) hyl2
              obtain ⟨l71, g71, k71⟩ := k71
              obtain rfl : l71 = [.int .i64 yl2] := g71
              refine R.ixp Tryd.underlying23 Tryd.sizeOf3 rfl rfl rfl (by omega) i71 ?_
              refine R.ldC Tryd.isAgg3 rfl rfl (k71 0 _ rfl) ?_
              refine R.asE rfl (by conv => lhs; whnf) ?_
              refine TL.nil (Post.thnN ?_)
              refine T.seq ?_
              refine T.seq ?_
              refine T.region ?_
              refine R.ldXH (cs := [.int .i64 (yl1.1), .int .u64 (yl1.2)]) (l := [.int .i64 (yl1.1), .int .u64 (yl1.2)]) Tryd.isAgg73 Tryd.sizeOf73 rfl rfl (s_l2 _ _ hb12_8) rfl rfl ?_
              refine R.mvE rfl (by conv => lhs; whnf) ?_
              refine R.callv rfl rfl rfl (windroselaw20_mentions_c _ yl1 (yl2)) ?_
              refine R.not rfl rfl ?_
              refine TL.nil (Post.thnN ?_)
              refine T.cond rfl (fun c76 => ?_) (fun c76 => ?_)
              · refine T.set 76 (.bool true) (congrArg Value.bool c76) ?_
                refine T.exit (Post.thnE (Post.blkX ?_))
                refine id (Post.thnN ?_)
                refine T.region ?_
                refine R.addI rfl rfl rfl (by omega) ?_
                refine R.mvE rfl (by conv => lhs; whnf) ?_
                refine TL.nil (Post.thnN ?_)
                exact ⟨(kl2 + 1, b16l2), s_l2, ⟨(by omega), Has.nil, (by rw [← hQl2, drop_cons hyl2, windroselaw20_PlanTouches_l2]; rw [if_t c76])⟩, by show r34.1.1.length - (kl2 + 1) < r34.1.1.length - kl2; omega, rfl, rfl, rfl, rfl, rfl, rfl, rfl, rfl, rfl, rfl, rfl, rfl, rfl, trivial⟩
              · refine T.set 76 (.bool false) (congrArg Value.bool c76) ?_
                refine T.skip (Post.thnN ?_)
                refine T.seq ?_
                refine T.region ?_
                refine R.asE rfl (by conv => lhs; whnf) ?_
                refine TL.nil (Post.thnN ?_)
                refine T.seq ?_
                refine T.region ?_
                refine R.mvE rfl (by conv => lhs; whnf) ?_
                refine R.fldA Tryd.underlying73 rfl Tryd.sizeOf32 (by decide) rfl rfl ?_
                refine R.ldH Tryd.isAgg32 rfl rfl (s_l2 _ _ hb12_8) rfl ?_
                refine R.mvE rfl (by conv => lhs; whnf) ?_
                obtain ⟨r82, er82⟩ : ∃ r, r = (trait_Policy_m r26.1 yl1.2 yl2) := ⟨_, rfl⟩
                refine R.callv (v := .tuple #[.int .i64 r82.1, .bool r82.2]) rfl rfl rfl (by rw [er82]; exact trait_Policy_c _ ((s26.trans (s33.trans (sF26_0_0_1.trans (sF26_1_0_2.trans (sF33_0_0_3.trans (s34.trans (sF34_0_0_4.trans (sF34_0_1_5.trans (sF34_0_2_6.trans (sb9_7.trans (s_l1.trans (sb12_8.trans s_l2)))))))))))) _ _ hG1) _ r26.1 (fF26_0_0_1.mono (sF26_1_0_2.trans (sF33_0_0_3.trans (s34.trans (sF34_0_0_4.trans (sF34_0_1_5.trans (sF34_0_2_6.trans (sb9_7.trans (s_l1.trans (sb12_8.trans s_l2)))))))))) (yl1.2) (yl2) (by first | omega | (simp; done) | (simp; omega) | (simp at *; omega))) ?_
                refine R.mvE rfl (by conv => lhs; whnf) ?_
                refine R.ext rfl rfl rfl ?_
                refine R.ext rfl rfl rfl ?_
                refine R.asE rfl (by conv => lhs; whnf) ?_
                refine R.asE rfl (by conv => lhs; whnf) ?_
                refine TL.nil (Post.thnN ?_)
                refine T.seq ?_
                refine T.cutK (ι := Bool) (fun b118c3 H' L' ds' => Has L' [] ∧ (if (!r82.2) = true then true else (if ¬ (yl1.1 ∈ r34.1.1) then (if r82.1 = 1 then true else (if ¬ (yl1.1 ∈ r34.1.1) then (if r82.1 = 2 then (if ¬ (yl1 ∈ r34.1.2.2) then true else (if ¬ (yl1.1 ∈ r34.1.1) then (if r82.1 = 0 then ((decide (¬ (yl1 ∈ r34.1.2.1)))) else false) else false)) else (if ¬ (yl1.1 ∈ r34.1.1) then (if r82.1 = 0 then ((decide (¬ (yl1 ∈ r34.1.2.1)))) else false) else false)) else (if ¬ (yl1.1 ∈ r34.1.1) then (if r82.1 = 0 then ((decide (¬ (yl1 ∈ r34.1.2.1)))) else false) else false))) else (if ¬ (yl1.1 ∈ r34.1.1) then (if r82.1 = 2 then (if ¬ (yl1 ∈ r34.1.2.2) then true else (if ¬ (yl1.1 ∈ r34.1.1) then (if r82.1 = 0 then ((decide (¬ (yl1 ∈ r34.1.2.1)))) else false) else false)) else (if ¬ (yl1.1 ∈ r34.1.1) then (if r82.1 = 0 then ((decide (¬ (yl1 ∈ r34.1.2.1)))) else false) else false)) else (if ¬ (yl1.1 ∈ r34.1.1) then (if r82.1 = 0 then ((decide (¬ (yl1 ∈ r34.1.2.1)))) else false) else false))) : Bool) = b118c3) (fun b118c3 => [(7, .slice A26_0_0 r26.1.length p26_0_0), (9, .pointer (some ⟨b9, 0, none⟩)), (12, .pointer (some ⟨b12, 0, none⟩)), (13, .bool (decide (yl1.1 ∈ r34.1.1))), (14, .bool (decide (yl1 ∈ r34.1.2.1))), (15, .bool (decide (yl1 ∈ r34.1.2.2))), (16, .bool true), (47, .slice A26_1_0 r26.2.length p26_1_0), (48, .int .i64 (r26.2.length : Int)), (49, .int .i64 (kl1 : Int)), (67, .slice A34_0_0 r34.1.1.length p34_0_0), (68, .int .i64 (r34.1.1.length : Int)), (69, .int .i64 (kl2 : Int)), (118, .bool (b118c3))]) ?_ ?_
                · refine T.region ?_
                  refine R.mvE rfl (by conv => lhs; whnf) ?_
                  refine R.not rfl rfl ?_
                  refine R.mvE rfl (by conv => lhs; whnf) ?_
                  refine TL.gsplit 87 rfl (fun g87 => ?_) (fun g87 => ?_)
                  · refine TL.off rfl rfl rfl ?_
                    refine TL.off rfl rfl rfl ?_
                    refine TL.off rfl rfl rfl ?_
                    refine TL.offU rfl rfl ?_
                    refine TL.offU rfl rfl ?_
                    refine TL.off rfl rfl rfl ?_
                    refine R.pkTE rfl rfl (by conv => lhs; whnf) ?_
                    refine R.mvE rfl (by conv => lhs; whnf) ?_
                    refine TL.off rfl rfl rfl ?_
                    refine TL.off rfl rfl rfl ?_
                    refine TL.off rfl rfl rfl ?_
                    refine TL.offU rfl rfl ?_
                    refine TL.offU rfl rfl ?_
                    refine TL.off rfl rfl rfl ?_
                    refine TL.off rfl rfl rfl ?_
                    refine TL.offU rfl rfl ?_
                    refine TL.offU rfl rfl ?_
                    refine TL.off rfl rfl rfl ?_
                    refine R.pkTE rfl rfl (by conv => lhs; whnf) ?_
                    refine R.mvE rfl (by conv => lhs; whnf) ?_
                    refine TL.off rfl rfl rfl ?_
                    refine TL.off rfl rfl rfl ?_
                    refine TL.off rfl rfl rfl ?_
                    refine TL.offU rfl rfl ?_
                    refine TL.offU rfl rfl ?_
                    refine TL.off rfl rfl rfl ?_
                    refine TL.off rfl rfl rfl ?_
                    refine TL.offU rfl rfl ?_
                    refine TL.offU rfl rfl ?_
                    refine TL.off rfl rfl rfl ?_
                    refine R.pkTE rfl rfl (by conv => lhs; whnf) ?_
                    refine TL.nil (Post.thnN ?_)
                    exact ⟨true, HLe.refl _, ⟨Has.nil, (by rw [if_t g87])⟩, rfl, rfl, rfl, rfl, rfl, rfl, rfl, rfl, rfl, rfl, rfl, rfl, rfl, rfl, trivial⟩
                  · refine R.mvE rfl (by conv => lhs; whnf) ?_
                    refine R.notD rfl rfl ?_
                    refine R.mvE rfl (by conv => lhs; whnf) ?_
                    refine TL.gsplitD 90 rfl (fun g90 => ?_) (fun g90 => ?_)
                    · refine R.mvE rfl (by conv => lhs; whnf) ?_
                      refine R.eql rfl rfl rfl ?_
                      refine R.pkTE rfl rfl (by conv => lhs; whnf) ?_
                      refine R.pkFE rfl rfl (by conv => lhs; whnf) ?_
                      refine R.mvE rfl (by conv => lhs; whnf) ?_
                      refine TL.gsplitD 95 rfl (fun g95 => ?_) (fun g95 => ?_)
                      · refine TL.off rfl rfl rfl ?_
                        refine TL.off rfl rfl rfl ?_
                        refine TL.off rfl rfl rfl ?_
                        refine TL.offU rfl rfl ?_
                        refine TL.offU rfl rfl ?_
                        refine TL.off rfl rfl rfl ?_
                        refine TL.off rfl rfl rfl ?_
                        refine TL.offU rfl rfl ?_
                        refine TL.offU rfl rfl ?_
                        refine TL.off rfl rfl rfl ?_
                        refine R.pkTE rfl rfl (by conv => lhs; whnf) ?_
                        refine R.mvE rfl (by conv => lhs; whnf) ?_
                        refine TL.off rfl rfl rfl ?_
                        refine TL.off rfl rfl rfl ?_
                        refine TL.off rfl rfl rfl ?_
                        refine TL.offU rfl rfl ?_
                        refine TL.offU rfl rfl ?_
                        refine TL.off rfl rfl rfl ?_
                        refine TL.off rfl rfl rfl ?_
                        refine TL.offU rfl rfl ?_
                        refine TL.offU rfl rfl ?_
                        refine TL.off rfl rfl rfl ?_
                        refine R.pkTE rfl rfl (by conv => lhs; whnf) ?_
                        refine TL.nil (Post.thnN ?_)
                        exact ⟨true, HLe.refl _, ⟨Has.nil, (by rw [if_f g87, if_pos g90, if_pos g95])⟩, rfl, rfl, rfl, rfl, rfl, rfl, rfl, rfl, rfl, rfl, rfl, rfl, rfl, rfl, trivial⟩
                      · refine R.mvE rfl (by conv => lhs; whnf) ?_
                        refine R.notD rfl rfl ?_
                        refine R.mvE rfl (by conv => lhs; whnf) ?_
                        refine TL.gsplitD 98 rfl (fun g98 => ?_) (fun g98 => ?_)
                        · refine R.mvE rfl (by conv => lhs; whnf) ?_
                          refine R.eql rfl rfl rfl ?_
                          refine R.pkTE rfl rfl (by conv => lhs; whnf) ?_
                          refine R.mvE rfl (by conv => lhs; whnf) ?_
                          refine TL.gsplitD 102 rfl (fun g102 => ?_) (fun g102 => ?_)
                          · refine R.mvE rfl (by conv => lhs; whnf) ?_
                            refine R.notD rfl rfl ?_
                            refine R.pkTE rfl rfl (by conv => lhs; whnf) ?_
                            refine R.pkFE rfl rfl (by conv => lhs; whnf) ?_
                            refine R.mvE rfl (by conv => lhs; whnf) ?_
                            refine TL.gsplitD 107 rfl (fun g107 => ?_) (fun g107 => ?_)
                            · refine TL.off rfl rfl rfl ?_
                              refine TL.off rfl rfl rfl ?_
                              refine TL.off rfl rfl rfl ?_
                              refine TL.offU rfl rfl ?_
                              refine TL.offU rfl rfl ?_
                              refine TL.off rfl rfl rfl ?_
                              refine TL.off rfl rfl rfl ?_
                              refine TL.offU rfl rfl ?_
                              refine TL.offU rfl rfl ?_
                              refine TL.off rfl rfl rfl ?_
                              refine R.pkTE rfl rfl (by conv => lhs; whnf) ?_
                              refine TL.nil (Post.thnN ?_)
                              exact ⟨true, HLe.refl _, ⟨Has.nil, (by rw [if_f g87, if_pos g90, if_neg g95, if_pos g98, if_pos g102, if_pos g107])⟩, rfl, rfl, rfl, rfl, rfl, rfl, rfl, rfl, rfl, rfl, rfl, rfl, rfl, rfl, trivial⟩
                            · refine R.mvE rfl (by conv => lhs; whnf) ?_
                              refine R.notD rfl rfl ?_
                              refine R.mvE rfl (by conv => lhs; whnf) ?_
                              refine TL.gsplitD 110 rfl (fun g110 => ?_) (fun g110 => ?_)
                              · refine R.mvE rfl (by conv => lhs; whnf) ?_
                                refine R.eql rfl rfl rfl ?_
                                refine R.pkTE rfl rfl (by conv => lhs; whnf) ?_
                                refine R.mvE rfl (by conv => lhs; whnf) ?_
                                refine TL.gsplitD 114 rfl (fun g114 => ?_) (fun g114 => ?_)
                                · refine R.mvE rfl (by conv => lhs; whnf) ?_
                                  refine R.notD rfl rfl ?_
                                  refine R.pkTE rfl rfl (by conv => lhs; whnf) ?_
                                  refine R.pkFE rfl rfl (by conv => lhs; whnf) ?_
                                  refine TL.nil (Post.thnN ?_)
                                  exact ⟨(decide (¬ (yl1 ∈ r34.1.2.1))), HLe.refl _, ⟨Has.nil, (by rw [if_f g87, if_pos g90, if_neg g95, if_pos g98, if_pos g102, if_neg g107, if_pos g110, if_pos g114])⟩, rfl, rfl, rfl, rfl, rfl, rfl, rfl, rfl, rfl, rfl, rfl, rfl, rfl, rfl, trivial⟩
                                · refine TL.off rfl rfl rfl ?_
                                  refine TL.off rfl rfl rfl ?_
                                  refine R.pkFE rfl rfl (by conv => lhs; whnf) ?_
                                  refine R.pkFE rfl rfl (by conv => lhs; whnf) ?_
                                  refine TL.nil (Post.thnN ?_)
                                  exact ⟨false, HLe.refl _, ⟨Has.nil, (by rw [if_f g87, if_pos g90, if_neg g95, if_pos g98, if_pos g102, if_neg g107, if_pos g110, if_neg g114])⟩, rfl, rfl, rfl, rfl, rfl, rfl, rfl, rfl, rfl, rfl, rfl, rfl, rfl, rfl, trivial⟩
                              · refine TL.off rfl rfl rfl ?_
                                refine TL.off rfl rfl rfl ?_
                                refine R.pkFE rfl rfl (by conv => lhs; whnf) ?_
                                refine R.mvE rfl (by conv => lhs; whnf) ?_
                                refine TL.off rfl rfl rfl ?_
                                refine TL.off rfl rfl rfl ?_
                                refine R.pkFE rfl rfl (by conv => lhs; whnf) ?_
                                refine R.pkFE rfl rfl (by conv => lhs; whnf) ?_
                                refine TL.nil (Post.thnN ?_)
                                exact ⟨false, HLe.refl _, ⟨Has.nil, (by rw [if_f g87, if_pos g90, if_neg g95, if_pos g98, if_pos g102, if_neg g107, if_neg g110])⟩, rfl, rfl, rfl, rfl, rfl, rfl, rfl, rfl, rfl, rfl, rfl, rfl, rfl, rfl, trivial⟩
                          · refine TL.off rfl rfl rfl ?_
                            refine TL.off rfl rfl rfl ?_
                            refine R.pkFE rfl rfl (by conv => lhs; whnf) ?_
                            refine R.pkFE rfl rfl (by conv => lhs; whnf) ?_
                            refine R.mvE rfl (by conv => lhs; whnf) ?_
                            refine R.mvE rfl (by conv => lhs; whnf) ?_
                            refine R.notD rfl rfl ?_
                            refine R.mvE rfl (by conv => lhs; whnf) ?_
                            refine TL.gsplitD 110 rfl (fun g110 => ?_) (fun g110 => ?_)
                            · refine R.mvE rfl (by conv => lhs; whnf) ?_
                              refine R.eql rfl rfl rfl ?_
                              refine R.pkTE rfl rfl (by conv => lhs; whnf) ?_
                              refine R.mvE rfl (by conv => lhs; whnf) ?_
                              refine TL.gsplitD 114 rfl (fun g114 => ?_) (fun g114 => ?_)
                              · refine R.mvE rfl (by conv => lhs; whnf) ?_
                                refine R.notD rfl rfl ?_
                                refine R.pkTE rfl rfl (by conv => lhs; whnf) ?_
                                refine R.pkFE rfl rfl (by conv => lhs; whnf) ?_
                                refine TL.nil (Post.thnN ?_)
                                exact ⟨(decide (¬ (yl1 ∈ r34.1.2.1))), HLe.refl _, ⟨Has.nil, (by rw [if_f g87, if_pos g90, if_neg g95, if_pos g98, if_neg g102, if_pos g110, if_pos g114])⟩, rfl, rfl, rfl, rfl, rfl, rfl, rfl, rfl, rfl, rfl, rfl, rfl, rfl, rfl, trivial⟩
                              · refine TL.off rfl rfl rfl ?_
                                refine TL.off rfl rfl rfl ?_
                                refine R.pkFE rfl rfl (by conv => lhs; whnf) ?_
                                refine R.pkFE rfl rfl (by conv => lhs; whnf) ?_
                                refine TL.nil (Post.thnN ?_)
                                exact ⟨false, HLe.refl _, ⟨Has.nil, (by rw [if_f g87, if_pos g90, if_neg g95, if_pos g98, if_neg g102, if_pos g110, if_neg g114])⟩, rfl, rfl, rfl, rfl, rfl, rfl, rfl, rfl, rfl, rfl, rfl, rfl, rfl, rfl, trivial⟩
                            · refine TL.off rfl rfl rfl ?_
                              refine TL.off rfl rfl rfl ?_
                              refine R.pkFE rfl rfl (by conv => lhs; whnf) ?_
                              refine R.mvE rfl (by conv => lhs; whnf) ?_
                              refine TL.off rfl rfl rfl ?_
                              refine TL.off rfl rfl rfl ?_
                              refine R.pkFE rfl rfl (by conv => lhs; whnf) ?_
                              refine R.pkFE rfl rfl (by conv => lhs; whnf) ?_
                              refine TL.nil (Post.thnN ?_)
                              exact ⟨false, HLe.refl _, ⟨Has.nil, (by rw [if_f g87, if_pos g90, if_neg g95, if_pos g98, if_neg g102, if_neg g110])⟩, rfl, rfl, rfl, rfl, rfl, rfl, rfl, rfl, rfl, rfl, rfl, rfl, rfl, rfl, trivial⟩
                        · refine TL.off rfl rfl rfl ?_
                          refine TL.off rfl rfl rfl ?_
                          refine R.pkFE rfl rfl (by conv => lhs; whnf) ?_
                          refine R.mvE rfl (by conv => lhs; whnf) ?_
                          refine TL.off rfl rfl rfl ?_
                          refine TL.off rfl rfl rfl ?_
                          refine R.pkFE rfl rfl (by conv => lhs; whnf) ?_
                          refine R.pkFE rfl rfl (by conv => lhs; whnf) ?_
                          refine R.mvE rfl (by conv => lhs; whnf) ?_
                          refine R.mvE rfl (by conv => lhs; whnf) ?_
                          refine R.notD rfl rfl ?_
                          refine R.mvE rfl (by conv => lhs; whnf) ?_
                          refine TL.gsplitD 110 rfl (fun g110 => ?_) (fun g110 => ?_)
                          · refine R.mvE rfl (by conv => lhs; whnf) ?_
                            refine R.eql rfl rfl rfl ?_
                            refine R.pkTE rfl rfl (by conv => lhs; whnf) ?_
                            refine R.mvE rfl (by conv => lhs; whnf) ?_
                            refine TL.gsplitD 114 rfl (fun g114 => ?_) (fun g114 => ?_)
                            · refine R.mvE rfl (by conv => lhs; whnf) ?_
                              refine R.notD rfl rfl ?_
                              refine R.pkTE rfl rfl (by conv => lhs; whnf) ?_
                              refine R.pkFE rfl rfl (by conv => lhs; whnf) ?_
                              refine TL.nil (Post.thnN ?_)
                              exact ⟨(decide (¬ (yl1 ∈ r34.1.2.1))), HLe.refl _, ⟨Has.nil, (by rw [if_f g87, if_pos g90, if_neg g95, if_neg g98, if_pos g110, if_pos g114])⟩, rfl, rfl, rfl, rfl, rfl, rfl, rfl, rfl, rfl, rfl, rfl, rfl, rfl, rfl, trivial⟩
                            · refine TL.off rfl rfl rfl ?_
                              refine TL.off rfl rfl rfl ?_
                              refine R.pkFE rfl rfl (by conv => lhs; whnf) ?_
                              refine R.pkFE rfl rfl (by conv => lhs; whnf) ?_
                              refine TL.nil (Post.thnN ?_)
                              exact ⟨false, HLe.refl _, ⟨Has.nil, (by rw [if_f g87, if_pos g90, if_neg g95, if_neg g98, if_pos g110, if_neg g114])⟩, rfl, rfl, rfl, rfl, rfl, rfl, rfl, rfl, rfl, rfl, rfl, rfl, rfl, rfl, trivial⟩
                          · refine TL.off rfl rfl rfl ?_
                            refine TL.off rfl rfl rfl ?_
                            refine R.pkFE rfl rfl (by conv => lhs; whnf) ?_
                            refine R.mvE rfl (by conv => lhs; whnf) ?_
                            refine TL.off rfl rfl rfl ?_
                            refine TL.off rfl rfl rfl ?_
                            refine R.pkFE rfl rfl (by conv => lhs; whnf) ?_
                            refine R.pkFE rfl rfl (by conv => lhs; whnf) ?_
                            refine TL.nil (Post.thnN ?_)
                            exact ⟨false, HLe.refl _, ⟨Has.nil, (by rw [if_f g87, if_pos g90, if_neg g95, if_neg g98, if_neg g110])⟩, rfl, rfl, rfl, rfl, rfl, rfl, rfl, rfl, rfl, rfl, rfl, rfl, rfl, rfl, trivial⟩
                    · refine TL.off rfl rfl rfl ?_
                      refine TL.off rfl rfl rfl ?_
                      refine R.pkFE rfl rfl (by conv => lhs; whnf) ?_
                      refine R.pkFE rfl rfl (by conv => lhs; whnf) ?_
                      refine R.mvE rfl (by conv => lhs; whnf) ?_
                      refine R.mvE rfl (by conv => lhs; whnf) ?_
                      refine R.notD rfl rfl ?_
                      refine R.mvE rfl (by conv => lhs; whnf) ?_
                      refine TL.gsplitD 98 rfl (fun g98 => ?_) (fun g98 => ?_)
                      · refine R.mvE rfl (by conv => lhs; whnf) ?_
                        refine R.eql rfl rfl rfl ?_
                        refine R.pkTE rfl rfl (by conv => lhs; whnf) ?_
                        refine R.mvE rfl (by conv => lhs; whnf) ?_
                        refine TL.gsplitD 102 rfl (fun g102 => ?_) (fun g102 => ?_)
                        · refine R.mvE rfl (by conv => lhs; whnf) ?_
                          refine R.notD rfl rfl ?_
                          refine R.pkTE rfl rfl (by conv => lhs; whnf) ?_
                          refine R.pkFE rfl rfl (by conv => lhs; whnf) ?_
                          refine R.mvE rfl (by conv => lhs; whnf) ?_
                          refine TL.gsplitD 107 rfl (fun g107 => ?_) (fun g107 => ?_)
                          · refine TL.off rfl rfl rfl ?_
                            refine TL.off rfl rfl rfl ?_
                            refine TL.off rfl rfl rfl ?_
                            refine TL.offU rfl rfl ?_
                            refine TL.offU rfl rfl ?_
                            refine TL.off rfl rfl rfl ?_
                            refine TL.off rfl rfl rfl ?_
                            refine TL.offU rfl rfl ?_
                            refine TL.offU rfl rfl ?_
                            refine TL.off rfl rfl rfl ?_
                            refine R.pkTE rfl rfl (by conv => lhs; whnf) ?_
                            refine TL.nil (Post.thnN ?_)
                            exact ⟨true, HLe.refl _, ⟨Has.nil, (by rw [if_f g87, if_neg g90, if_pos g98, if_pos g102, if_pos g107])⟩, rfl, rfl, rfl, rfl, rfl, rfl, rfl, rfl, rfl, rfl, rfl, rfl, rfl, rfl, trivial⟩
                          · refine R.mvE rfl (by conv => lhs; whnf) ?_
                            refine R.notD rfl rfl ?_
                            refine R.mvE rfl (by conv => lhs; whnf) ?_
                            refine TL.gsplitD 110 rfl (fun g110 => ?_) (fun g110 => ?_)
                            · refine R.mvE rfl (by conv => lhs; whnf) ?_
                              refine R.eql rfl rfl rfl ?_
                              refine R.pkTE rfl rfl (by conv => lhs; whnf) ?_
                              refine R.mvE rfl (by conv => lhs; whnf) ?_
                              refine TL.gsplitD 114 rfl (fun g114 => ?_) (fun g114 => ?_)
                              · refine R.mvE rfl (by conv => lhs; whnf) ?_
                                refine R.notD rfl rfl ?_
                                refine R.pkTE rfl rfl (by conv => lhs; whnf) ?_
                                refine R.pkFE rfl rfl (by conv => lhs; whnf) ?_
                                refine TL.nil (Post.thnN ?_)
                                exact ⟨(decide (¬ (yl1 ∈ r34.1.2.1))), HLe.refl _, ⟨Has.nil, (by rw [if_f g87, if_neg g90, if_pos g98, if_pos g102, if_neg g107, if_pos g110, if_pos g114])⟩, rfl, rfl, rfl, rfl, rfl, rfl, rfl, rfl, rfl, rfl, rfl, rfl, rfl, rfl, trivial⟩
                              · refine TL.off rfl rfl rfl ?_
                                refine TL.off rfl rfl rfl ?_
                                refine R.pkFE rfl rfl (by conv => lhs; whnf) ?_
                                refine R.pkFE rfl rfl (by conv => lhs; whnf) ?_
                                refine TL.nil (Post.thnN ?_)
                                exact ⟨false, HLe.refl _, ⟨Has.nil, (by rw [if_f g87, if_neg g90, if_pos g98, if_pos g102, if_neg g107, if_pos g110, if_neg g114])⟩, rfl, rfl, rfl, rfl, rfl, rfl, rfl, rfl, rfl, rfl, rfl, rfl, rfl, rfl, trivial⟩
                            · refine TL.off rfl rfl rfl ?_
                              refine TL.off rfl rfl rfl ?_
                              refine R.pkFE rfl rfl (by conv => lhs; whnf) ?_
                              refine R.mvE rfl (by conv => lhs; whnf) ?_
                              refine TL.off rfl rfl rfl ?_
                              refine TL.off rfl rfl rfl ?_
                              refine R.pkFE rfl rfl (by conv => lhs; whnf) ?_
                              refine R.pkFE rfl rfl (by conv => lhs; whnf) ?_
                              refine TL.nil (Post.thnN ?_)
                              exact ⟨false, HLe.refl _, ⟨Has.nil, (by rw [if_f g87, if_neg g90, if_pos g98, if_pos g102, if_neg g107, if_neg g110])⟩, rfl, rfl, rfl, rfl, rfl, rfl, rfl, rfl, rfl, rfl, rfl, rfl, rfl, rfl, trivial⟩
                        · refine TL.off rfl rfl rfl ?_
                          refine TL.off rfl rfl rfl ?_
                          refine R.pkFE rfl rfl (by conv => lhs; whnf) ?_
                          refine R.pkFE rfl rfl (by conv => lhs; whnf) ?_
                          refine R.mvE rfl (by conv => lhs; whnf) ?_
                          refine R.mvE rfl (by conv => lhs; whnf) ?_
                          refine R.notD rfl rfl ?_
                          refine R.mvE rfl (by conv => lhs; whnf) ?_
                          refine TL.gsplitD 110 rfl (fun g110 => ?_) (fun g110 => ?_)
                          · refine R.mvE rfl (by conv => lhs; whnf) ?_
                            refine R.eql rfl rfl rfl ?_
                            refine R.pkTE rfl rfl (by conv => lhs; whnf) ?_
                            refine R.mvE rfl (by conv => lhs; whnf) ?_
                            refine TL.gsplitD 114 rfl (fun g114 => ?_) (fun g114 => ?_)
                            · refine R.mvE rfl (by conv => lhs; whnf) ?_
                              refine R.notD rfl rfl ?_
                              refine R.pkTE rfl rfl (by conv => lhs; whnf) ?_
                              refine R.pkFE rfl rfl (by conv => lhs; whnf) ?_
                              refine TL.nil (Post.thnN ?_)
                              exact ⟨(decide (¬ (yl1 ∈ r34.1.2.1))), HLe.refl _, ⟨Has.nil, (by rw [if_f g87, if_neg g90, if_pos g98, if_neg g102, if_pos g110, if_pos g114])⟩, rfl, rfl, rfl, rfl, rfl, rfl, rfl, rfl, rfl, rfl, rfl, rfl, rfl, rfl, trivial⟩
                            · refine TL.off rfl rfl rfl ?_
                              refine TL.off rfl rfl rfl ?_
                              refine R.pkFE rfl rfl (by conv => lhs; whnf) ?_
                              refine R.pkFE rfl rfl (by conv => lhs; whnf) ?_
                              refine TL.nil (Post.thnN ?_)
                              exact ⟨false, HLe.refl _, ⟨Has.nil, (by rw [if_f g87, if_neg g90, if_pos g98, if_neg g102, if_pos g110, if_neg g114])⟩, rfl, rfl, rfl, rfl, rfl, rfl, rfl, rfl, rfl, rfl, rfl, rfl, rfl, rfl, trivial⟩
                          · refine TL.off rfl rfl rfl ?_
                            refine TL.off rfl rfl rfl ?_
                            refine R.pkFE rfl rfl (by conv => lhs; whnf) ?_
                            refine R.mvE rfl (by conv => lhs; whnf) ?_
                            refine TL.off rfl rfl rfl ?_
                            refine TL.off rfl rfl rfl ?_
                            refine R.pkFE rfl rfl (by conv => lhs; whnf) ?_
                            refine R.pkFE rfl rfl (by conv => lhs; whnf) ?_
                            refine TL.nil (Post.thnN ?_)
                            exact ⟨false, HLe.refl _, ⟨Has.nil, (by rw [if_f g87, if_neg g90, if_pos g98, if_neg g102, if_neg g110])⟩, rfl, rfl, rfl, rfl, rfl, rfl, rfl, rfl, rfl, rfl, rfl, rfl, rfl, rfl, trivial⟩
                      · refine TL.off rfl rfl rfl ?_
                        refine TL.off rfl rfl rfl ?_
                        refine R.pkFE rfl rfl (by conv => lhs; whnf) ?_
                        refine R.mvE rfl (by conv => lhs; whnf) ?_
                        refine TL.off rfl rfl rfl ?_
                        refine TL.off rfl rfl rfl ?_
                        refine R.pkFE rfl rfl (by conv => lhs; whnf) ?_
                        refine R.pkFE rfl rfl (by conv => lhs; whnf) ?_
                        refine R.mvE rfl (by conv => lhs; whnf) ?_
                        refine R.mvE rfl (by conv => lhs; whnf) ?_
                        refine R.notD rfl rfl ?_
                        refine R.mvE rfl (by conv => lhs; whnf) ?_
                        refine TL.gsplitD 110 rfl (fun g110 => ?_) (fun g110 => ?_)
                        · refine R.mvE rfl (by conv => lhs; whnf) ?_
                          refine R.eql rfl rfl rfl ?_
                          refine R.pkTE rfl rfl (by conv => lhs; whnf) ?_
                          refine R.mvE rfl (by conv => lhs; whnf) ?_
                          refine TL.gsplitD 114 rfl (fun g114 => ?_) (fun g114 => ?_)
                          · refine R.mvE rfl (by conv => lhs; whnf) ?_
                            refine R.notD rfl rfl ?_
                            refine R.pkTE rfl rfl (by conv => lhs; whnf) ?_
                            refine R.pkFE rfl rfl (by conv => lhs; whnf) ?_
                            refine TL.nil (Post.thnN ?_)
                            exact ⟨(decide (¬ (yl1 ∈ r34.1.2.1))), HLe.refl _, ⟨Has.nil, (by rw [if_f g87, if_neg g90, if_neg g98, if_pos g110, if_pos g114])⟩, rfl, rfl, rfl, rfl, rfl, rfl, rfl, rfl, rfl, rfl, rfl, rfl, rfl, rfl, trivial⟩
                          · refine TL.off rfl rfl rfl ?_
                            refine TL.off rfl rfl rfl ?_
                            refine R.pkFE rfl rfl (by conv => lhs; whnf) ?_
                            refine R.pkFE rfl rfl (by conv => lhs; whnf) ?_
                            refine TL.nil (Post.thnN ?_)
                            exact ⟨false, HLe.refl _, ⟨Has.nil, (by rw [if_f g87, if_neg g90, if_neg g98, if_pos g110, if_neg g114])⟩, rfl, rfl, rfl, rfl, rfl, rfl, rfl, rfl, rfl, rfl, rfl, rfl, rfl, rfl, trivial⟩
                        · refine TL.off rfl rfl rfl ?_
                          refine TL.off rfl rfl rfl ?_
                          refine R.pkFE rfl rfl (by conv => lhs; whnf) ?_
                          refine R.mvE rfl (by conv => lhs; whnf) ?_
                          refine TL.off rfl rfl rfl ?_
                          refine TL.off rfl rfl rfl ?_
                          refine R.pkFE rfl rfl (by conv => lhs; whnf) ?_
                          refine R.pkFE rfl rfl (by conv => lhs; whnf) ?_
                          refine TL.nil (Post.thnN ?_)
                          exact ⟨false, HLe.refl _, ⟨Has.nil, (by rw [if_f g87, if_neg g90, if_neg g98, if_neg g110])⟩, rfl, rfl, rfl, rfl, rfl, rfl, rfl, rfl, rfl, rfl, rfl, rfl, rfl, rfl, trivial⟩
                · intro b118c3 σ_c3 H_c3 L_c3 ds_c3 s_c3 hI_c3
                  obtain ⟨hLc3, hTc3⟩ := hI_c3
                  refine T.has hLc3 ?_
                  refine T.cond rfl (fun c118 => ?_) (fun c118 => ?_)
                  · refine T.set 118 (.bool true) (congrArg Value.bool c118) ?_
                    have hZ118 := hTc3.trans c118
                    try simp only [or_f, or_t, and_f, and_t, decide_eq_true_eq, decide_eq_false_iff_not, Bool.not_eq_true'] at hZ118
                    refine T.seq ?_
                    refine T.region ?_
                    refine R.asE rfl (by conv => lhs; whnf) ?_
                    refine TL.nil (Post.thnN ?_)
                    refine T.has Has.nil ?_
                    refine T.ret (Post.blkR (Post.thnR (Post.thnR (Post.blkR (Post.thnR (Post.blkR (Post.thnR (Post.thnR (Post.blkR (Post.thnR ?_))))))))))
                    have hXl2 : windroselaw20_PlanTouches_l2 r26 r34 yl1 r34.1.1 false = .ret (.ret false) := by subst er82; rw [← hQl2, drop_cons hyl2, windroselaw20_PlanTouches_l2]; rw [if_f c76, LR.seq_go, hTc3, LR.seq_go, if_t c118]
                    have hXl1 : windroselaw20_PlanTouches_l1 r26 r34 r26.2 () = .ret false := by rw [← hQl1, drop_cons hyl1, windroselaw20_PlanTouches_l1]; rw [hXl2, LR.on_ret]
                    have hM : windroselaw20_PlanTouches_m a0 a1 a2 = false := by subst er34; subst er33; subst er26; rw [windroselaw20_PlanTouches_m, if_f c22, LR.seq_go, LR.seq_go, LR.seq_go, if_neg c38, hXl1, LR.on_ret]
                    exact fin1L (v := .bool false) [] rfl rfl (List.Sublist.refl _) ⟨rfl, by first | rw [hM] | rfl⟩
                  · refine T.set 118 (.bool false) (congrArg Value.bool c118) ?_
                    have hZ118 := hTc3.trans c118
                    try simp only [or_f, or_t, and_f, and_t, decide_eq_true_eq, decide_eq_false_iff_not, Bool.not_eq_true'] at hZ118
                    refine T.skip (Post.blkN ?_)
                    refine id (Post.thnN ?_)
                    refine T.region ?_
                    refine R.addI rfl rfl rfl (by omega) ?_
                    refine R.mvE rfl (by conv => lhs; whnf) ?_
                    refine TL.nil (Post.thnN ?_)
                    exact ⟨(kl2 + 1, true), (s_l2.trans s_c3), ⟨(by omega), Has.nil, (by subst er82; rw [← hQl2, drop_cons hyl2, windroselaw20_PlanTouches_l2]; rw [if_f c76, LR.seq_go, hTc3, LR.seq_go, if_f c118])⟩, by show r34.1.1.length - (kl2 + 1) < r34.1.1.length - kl2; omega, rfl, rfl, rfl, rfl, rfl, rfl, rfl, rfl, rfl, rfl, rfl, rfl, rfl, trivial⟩
            · refine T.exit (Post.thnE (Post.thnE (Post.blkX ?_)))
              have hEl2 : windroselaw20_PlanTouches_l2 r26 r34 yl1 r34.1.1 false = .go b16l2 := (hQl2.symm.trans (by rw [show kl2 = r34.1.1.length by omega, List.drop_length, windroselaw20_PlanTouches_l2]))
              refine id (Post.thnN ?_)
              refine T.seq ?_
              refine T.cutK (ι := Bool) (fun b133c4 H' L' ds' => Has L' [] ∧ (if b16l2 = true then (if ((decide (yl1 ∈ r34.1.2.1)) != (decide (¬ (yl1.1 ∈ r34.1.1)))) = true then true else (if yl1 ∈ r34.1.2.2 then ((decide (¬ (yl1 ∈ r34.1.2.1)))) else false)) else (if ((decide (yl1 ∈ r34.1.2.1)) != false) = true then true else (if yl1 ∈ r34.1.2.2 then ((decide (¬ (yl1 ∈ r34.1.2.1)))) else false)) : Bool) = b133c4) (fun b133c4 => [(7, .slice A26_0_0 r26.1.length p26_0_0), (9, .pointer (some ⟨b9, 0, none⟩)), (47, .slice A26_1_0 r26.2.length p26_1_0), (48, .int .i64 (r26.2.length : Int)), (49, .int .i64 (kl1 : Int)), (133, .bool (b133c4))]) ?_ ?_
              · refine T.region ?_
                refine R.mvE rfl (by conv => lhs; whnf) ?_
                refine R.mvE rfl (by conv => lhs; whnf) ?_
                refine R.mvE rfl (by conv => lhs; whnf) ?_
                refine TL.gsplit 122 rfl (fun g122 => ?_) (fun g122 => ?_)
                · refine R.mvE rfl (by conv => lhs; whnf) ?_
                  refine R.notD rfl rfl ?_
                  refine R.pkTE rfl rfl (by conv => lhs; whnf) ?_
                  refine R.neqB Tryd.underlying4 rfl rfl rfl ?_
                  refine R.mvE rfl (by conv => lhs; whnf) ?_
                  refine TL.gsplit 127 rfl (fun g127 => ?_) (fun g127 => ?_)
                  · refine TL.off rfl rfl rfl ?_
                    refine TL.off rfl rfl rfl ?_
                    refine TL.offU rfl rfl ?_
                    refine TL.offU rfl rfl ?_
                    refine TL.off rfl rfl rfl ?_
                    refine R.pkTE rfl rfl (by conv => lhs; whnf) ?_
                    refine TL.nil (Post.thnN ?_)
                    exact ⟨true, HLe.refl _, ⟨Has.nil, (by rw [if_t g122, if_t g127])⟩, rfl, rfl, rfl, rfl, rfl, rfl, trivial⟩
                  · refine R.mvE rfl (by conv => lhs; whnf) ?_
                    refine R.mvE rfl (by conv => lhs; whnf) ?_
                    refine TL.gsplitD 129 rfl (fun g129 => ?_) (fun g129 => ?_)
                    · refine R.mvE rfl (by conv => lhs; whnf) ?_
                      refine R.notD rfl rfl ?_
                      refine R.pkTE rfl rfl (by conv => lhs; whnf) ?_
                      refine R.pkFE rfl rfl (by conv => lhs; whnf) ?_
                      refine TL.nil (Post.thnN ?_)
                      exact ⟨(decide (¬ (yl1 ∈ r34.1.2.1))), HLe.refl _, ⟨Has.nil, (by rw [if_t g122, if_f g127, if_pos g129])⟩, rfl, rfl, rfl, rfl, rfl, rfl, trivial⟩
                    · refine TL.off rfl rfl rfl ?_
                      refine TL.off rfl rfl rfl ?_
                      refine R.pkFE rfl rfl (by conv => lhs; whnf) ?_
                      refine R.pkFE rfl rfl (by conv => lhs; whnf) ?_
                      refine TL.nil (Post.thnN ?_)
                      exact ⟨false, HLe.refl _, ⟨Has.nil, (by rw [if_t g122, if_f g127, if_neg g129])⟩, rfl, rfl, rfl, rfl, rfl, rfl, trivial⟩
                · refine TL.off rfl rfl rfl ?_
                  refine TL.off rfl rfl rfl ?_
                  refine R.pkFE rfl rfl (by conv => lhs; whnf) ?_
                  refine R.neqB Tryd.underlying4 rfl rfl rfl ?_
                  refine R.mvE rfl (by conv => lhs; whnf) ?_
                  refine TL.gsplit 127 rfl (fun g127 => ?_) (fun g127 => ?_)
                  · refine TL.off rfl rfl rfl ?_
                    refine TL.off rfl rfl rfl ?_
                    refine TL.offU rfl rfl ?_
                    refine TL.offU rfl rfl ?_
                    refine TL.off rfl rfl rfl ?_
                    refine R.pkTE rfl rfl (by conv => lhs; whnf) ?_
                    refine TL.nil (Post.thnN ?_)
                    exact ⟨true, HLe.refl _, ⟨Has.nil, (by rw [if_f g122, if_t g127])⟩, rfl, rfl, rfl, rfl, rfl, rfl, trivial⟩
                  · refine R.mvE rfl (by conv => lhs; whnf) ?_
                    refine R.mvE rfl (by conv => lhs; whnf) ?_
                    refine TL.gsplitD 129 rfl (fun g129 => ?_) (fun g129 => ?_)
                    · refine R.mvE rfl (by conv => lhs; whnf) ?_
                      refine R.notD rfl rfl ?_
                      refine R.pkTE rfl rfl (by conv => lhs; whnf) ?_
                      refine R.pkFE rfl rfl (by conv => lhs; whnf) ?_
                      refine TL.nil (Post.thnN ?_)
                      exact ⟨(decide (¬ (yl1 ∈ r34.1.2.1))), HLe.refl _, ⟨Has.nil, (by rw [if_f g122, if_f g127, if_pos g129])⟩, rfl, rfl, rfl, rfl, rfl, rfl, trivial⟩
                    · refine TL.off rfl rfl rfl ?_
                      refine TL.off rfl rfl rfl ?_
                      refine R.pkFE rfl rfl (by conv => lhs; whnf) ?_
                      refine R.pkFE rfl rfl (by conv => lhs; whnf) ?_
                      refine TL.nil (Post.thnN ?_)
                      exact ⟨false, HLe.refl _, ⟨Has.nil, (by rw [if_f g122, if_f g127, if_neg g129])⟩, rfl, rfl, rfl, rfl, rfl, rfl, trivial⟩
              · intro b133c4 σ_c4 H_c4 L_c4 ds_c4 s_c4 hI_c4
                obtain ⟨hLc4, hTc4⟩ := hI_c4
                refine T.has hLc4 ?_
                refine T.cond rfl (fun c133 => ?_) (fun c133 => ?_)
                · refine T.set 133 (.bool true) (congrArg Value.bool c133) ?_
                  have hZ133 := hTc4.trans c133
                  try simp only [or_f, or_t, and_f, and_t, decide_eq_true_eq, decide_eq_false_iff_not, Bool.not_eq_true'] at hZ133
                  refine T.seq ?_
                  refine T.region ?_
                  refine R.asE rfl (by conv => lhs; whnf) ?_
                  refine TL.nil (Post.thnN ?_)
                  refine T.has Has.nil ?_
                  refine T.ret (Post.blkR (Post.thnR (Post.thnR (Post.blkR (Post.thnR ?_)))))
                  have hXl1 : windroselaw20_PlanTouches_l1 r26 r34 r26.2 () = .ret false := by rw [← hQl1, drop_cons hyl1, windroselaw20_PlanTouches_l1]; rw [hEl2, LR.on_go, hTc4, LR.seq_go, if_t c133]
                  have hM : windroselaw20_PlanTouches_m a0 a1 a2 = false := by subst er34; subst er33; subst er26; rw [windroselaw20_PlanTouches_m, if_f c22, LR.seq_go, LR.seq_go, LR.seq_go, if_neg c38, hXl1, LR.on_ret]
                  exact fin1L (v := .bool false) [] rfl rfl (List.Sublist.refl _) ⟨rfl, by first | rw [hM] | rfl⟩
                · refine T.set 133 (.bool false) (congrArg Value.bool c133) ?_
                  have hZ133 := hTc4.trans c133
                  try simp only [or_f, or_t, and_f, and_t, decide_eq_true_eq, decide_eq_false_iff_not, Bool.not_eq_true'] at hZ133
                  refine T.skip (Post.blkN ?_)
                  refine id (Post.thnN ?_)
                  refine T.region ?_
                  refine R.addI rfl rfl rfl (by omega) ?_
                  refine R.mvE rfl (by conv => lhs; whnf) ?_
                  refine TL.nil (Post.thnN ?_)
                  exact ⟨kl1 + 1, (s_l1.trans (sb12_8.trans (s_l2.trans s_c4))), ⟨(by omega), Has.nil, (by rw [← hQl1, drop_cons hyl1, windroselaw20_PlanTouches_l1]; rw [hEl2, LR.on_go, hTc4, LR.seq_go, if_f c133])⟩, by show r26.2.length - (kl1 + 1) < r26.2.length - kl1; omega, rfl, rfl, rfl, rfl, rfl, trivial⟩
        · refine T.exit (Post.thnE (Post.thnE (Post.blkX ?_)))
          have hEl1 : windroselaw20_PlanTouches_l1 r26 r34 r26.2 () = .go () := (hQl1.symm.trans (by rw [show kl1 = r26.2.length by omega, List.drop_length, windroselaw20_PlanTouches_l1]))
          refine id (Post.thnN ?_)
          refine T.seq ?_
          refine T.region ?_
          refine R.fldA Tryd.underlying81 rfl Tryd.sizeOf60 (by decide) rfl rfl ?_
          refine R.ldH Tryd.isAgg60 rfl rfl (s_l1 _ _ hb9_7) rfl ?_
          refine R.len Tryd.underlying60 rfl rfl ?_
          refine R.fldA Tryd.underlying81 rfl Tryd.sizeOf60 (by decide) rfl rfl ?_
          refine R.ldH Tryd.isAgg60 rfl rfl (s_l1 _ _ hb9_7) rfl ?_
          refine R.len Tryd.underlying60 rfl rfl ?_
          refine R.leq rfl rfl rfl ?_
          refine R.asE rfl (by conv => lhs; whnf) ?_
          refine TL.nil (Post.thnN ?_)
          refine T.has Has.nil ?_
          refine T.ret ?_
          have hM : windroselaw20_PlanTouches_m a0 a1 a2 = (decide ((r34.1.2.2.length : Int) ≤ (r34.1.2.1.length : Int))) := by subst er34; subst er33; subst er26; rw [windroselaw20_PlanTouches_m, if_f c22, LR.seq_go, LR.seq_go, LR.seq_go, if_neg c38, hEl1, LR.on_go]
          exact fin1L (v := .bool (decide ((r34.1.2.2.length : Int) ≤ (r34.1.2.1.length : Int)))) [] rfl rfl (List.Sublist.refl _) ⟨rfl, by first | rw [hM] | rfl⟩

def windroselaw20_PlanCloses_1_m (q0 : List (Int × (Bool × Bool × Int × Int × Int))) (q1 : List (Int × Int)) (q2 : Int) (a0 : Int) : Bool :=
  LR.seq (plan_Why_m q0 q1 a0 q2) (fun r13 => if r13.2 = 0 then (if a0 = q2 then true else (if (0 : Int) < (r13.1.length : Int) then ((decide ((r13.1.getD ((((r13.1.length : Int) - 1)).toNat) (((0, 0) : Int × Int) : Int × Int)).1 = q2))) else false)) else false)
def windroselaw20_PlanCloses_l3 (r24 : (List (Int × (Bool × Bool × Int × Int × Int))) × (List (Int × Int))) (r28 : (List Int)) : List Int → Unit → LR (Bool) (Unit)
  | [], sl3 => .go ()
  | yl3 :: ysl3, sl3 => LR.seq (slices_ContainsFunc_int_m r28 ((fun z0 => windroselaw20_PlanCloses_1_m r24.1 r24.2 yl3 z0))) (fun r83 => if (!r83) = true then (.ret false) else (windroselaw20_PlanCloses_l3 r24 r28 ysl3 ()))
def windroselaw20_PlanCloses_l2 (r33 : ((List Int) × (List (Int × Int)) × (List (Int × Int))) × Int) : List Int → Unit → LR (Bool) (Unit)
  | [], sl2 => .go ()
  | yl2 :: ysl2, sl2 => if ¬ (yl2 ∈ r33.1.1) then (.ret false) else (windroselaw20_PlanCloses_l2 r33 ysl2 ())
def windroselaw20_PlanCloses_m (a0 : List (Int × (Bool × Bool × Int × Int × Int))) (a1 : List (Int × Int)) (a2 : List Int) : Bool :=
  if (!windroselaw20_wakes_m) = true then false else (LR.seq (windroselaw20_own_m a0 a1) (fun r24 => LR.seq (windroselaw20_few_m a2) (fun r28 => LR.seq (plan_Of_m r24.1 r24.2 r28) (fun r33 => if r33.2 ≠ 0 then ((decide ((r33.1.1.length : Int) = 0))) else (LR.seq (plan_Closed_m r24.1 r24.2 r33.1.1) (fun r47 => LR.seq (if r47.2 ≠ 0 then true else (if (!r47.1) = true then true else ((!(slices_IsSorted_int_m r33.1.1)))) : Bool) (fun sc1 => if sc1 = true then false else (LR.on (windroselaw20_PlanCloses_l2 r33 r28 ()) (fun r => r) (fun ol2 => LR.on (windroselaw20_PlanCloses_l3 r24 r28 r33.1.1 ()) (fun r => r) (fun ol3 => LR.seq (plan_Of_m r24.1 r24.2 []) (fun r90 => if r90.2 = 0 then (LR.seq (plan_Same_m r90.1 ((([], [], []) : (List Int) × (List (Int × Int)) × (List (Int × Int))))) (fun r98 => r98)) else false)))))))))))
end Go.SX

set_option linter.unusedVariables false
set_option linter.unusedSimpArgs false
namespace Go.SX
open Go
abbrev smL : List Rl := [(1, (true, true, 0, 1, 2)), (2, (true, false, 0, 0, 2)), (3, (false, false, 0, 2, 1))]
theorem small_1 : windroselaw20_small_m.1 = smL := by unfold windroselaw20_small_m; simp [LR.seq]
def pairI (r t : Int) : Int := (ident_Pair_m r t).1
abbrev smH : List Hd := [(5, pairI 1 4), (6, pairI 1 5), (7, pairI 2 5), (8, pairI 3 6)]
theorem small_2 : windroselaw20_small_m.2 = smH := by unfold windroselaw20_small_m; simp [LR.seq, windroselaw20_small_l1, pairI]; try decide
theorem sm_check : plan_Check_m smL smH = 0 := by kernel_rfl
theorem sm_dies : diesD smL smH [4] = [(4, []), (5, [(5, pairI 1 4)]), (6, [(5, pairI 1 4), (6, pairI 1 5)])] := by kernel_rfl
theorem sm_dies3 : diesD smL smH [3] = [(3, []), (8, [(8, pairI 3 6)])] := by kernel_rfl
end Go.SX

set_option linter.unusedVariables false
set_option linter.unusedSimpArgs false
namespace Go.SX
open Go
theorem policy_val {l : List Rl} {id n : Int} (hk : kindG id = 3) (hf : (trait_Find_m l (ident_Parts_m id).1).2 = true) (hn : n = (ident_Parts_m id).1 ∨ n = (ident_Parts_m id).2) :
    ∃ p, trait_Policy_m l id n = (p, true) ∧ (p = 0 ∨ p = 1 ∨ p = 2) := by
  unfold trait_Policy_m
  rw [LR.seq_go, LR.seq_go, hk, if_neg (by decide), hf, Bool.not_true, if_neg Bool.false_ne_true]
  have e1 : (if n ≠ (ident_Parts_m id).1 then decide (n ≠ (ident_Parts_m id).2) else false) = false := by
    rcases hn with h | h
    · rw [if_neg (fun k => k h)]
    · split
      · exact decide_eq_false (fun k => k h)
      · rfl
  rw [e1, LR.seq_go, if_neg Bool.false_ne_true, LR.seq_go, LR.seq_go]
  generalize (if n = (ident_Parts_m id).2 then _ else _ : Bool × Bool × Bool) = s2
  generalize (if n = (ident_Parts_m id).1 then _ else _ : Bool × Bool × Bool) = s3
  cases h1 : s3.2.1 with
  | true => rw [if_pos rfl, LR.on_ret]; exact ⟨1, rfl, .inr (.inl rfl)⟩
  | false =>
    rw [if_neg Bool.false_ne_true]
    cases h2 : s3.2.2 with
    | true => rw [if_pos rfl, LR.on_go, if_pos rfl]; exact ⟨2, rfl, .inr (.inr rfl)⟩
    | false => rw [if_neg Bool.false_ne_true, LR.on_go, if_neg Bool.false_ne_true]; exact ⟨0, rfl, .inl rfl⟩
/-- What may be held of relations. -/
def HeldOk (l : List Rl) (h : Hd) : Prop := (trait_Find_m l (ident_Parts_m h.2).1).2 = true ∧ idxOk h.1 ∧ kindG h.2 = 3
def stepOk (held : List Hd) (k : Nat) (h : Hd) : Prop := (0 : Int) < (k : Int) → plan_compare_m (held.getD (((k : Int) - 1)).toNat (((0, 0) : Int × Int) : Int × Int)) h < 0
theorem check_l1 (l : List Rl) (held : List Hd) : ∀ (xs : List Hd) (k : Nat), (plan_Check_l1 l held xs k () = .go () ∧ ∀ (i : Nat) (h : Hd), xs[i]? = some h → HeldOk l h ∧ stepOk held (k + i) h) ∨ (plan_Check_l1 l held xs k () = .ret 300 ∧ ∃ (i : Nat) (h : Hd), xs[i]? = some h ∧ ¬ (HeldOk l h ∧ stepOk held (k + i) h))
  | [], k => .inl ⟨rfl, fun i h hi => by simp at hi⟩
  | y :: ys, k => by
    rw [plan_Check_l1, LR.seq_go, LR.seq_go]
    have hiff : (if (!(trait_Find_m l (ident_Parts_m y.2).1).2) = true then true else (if (!(plan_index_m y.1)) = true then true else (if ((kindG y.2) : Int) ≠ 3 then true else (if (0 : Int) < (k : Int) then ((decide ((0 : Int) ≤ (plan_compare_m (held.getD ((((k : Int) - 1)).toNat) (((0, 0) : Int × Int) : Int × Int)) y)))) else false)))) = false ↔ HeldOk l y ∧ stepOk held k y := by
      unfold HeldOk stepOk idxOk
      rw [or_f, or_f, or_f, and_f, Bool.not_eq_true', Bool.not_eq_true', decide_eq_false_iff_not, ← pindex_iff]
      constructor
      · rintro ⟨h1, h2, h3, h4⟩
        refine ⟨⟨by simpa using h1, by simpa using h2, by omega⟩, fun h5 => ?_⟩
        rcases h4 with h4 | h4
        · exact absurd h5 h4
        · omega
      · rintro ⟨⟨h1, h2, h3⟩, h4⟩
        refine ⟨by simpa using h1, by simpa using h2, by omega, ?_⟩
        by_cases h5 : (0 : Int) < (k : Int)
        · have := h4 h5; exact .inr (by omega)
        · exact .inl h5
    rw [LR.seq_go]
    cases hb : (if (!(trait_Find_m l (ident_Parts_m y.2).1).2) = true then true else (if (!(plan_index_m y.1)) = true then true else (if ((kindG y.2) : Int) ≠ 3 then true else (if (0 : Int) < (k : Int) then ((decide ((0 : Int) ≤ (plan_compare_m (held.getD ((((k : Int) - 1)).toNat) (((0, 0) : Int × Int) : Int × Int)) y)))) else false)))) with
    | true =>
      rw [if_pos rfl]
      refine .inr ⟨rfl, 0, y, rfl, fun h => ?_⟩
      have := hiff.2 (by simpa using h)
      rw [hb] at this; cases this
    | false =>
      rw [if_neg Bool.false_ne_true]
      have hy := hiff.1 hb
      rcases check_l1 l held ys (k + 1) with ⟨h1, h2⟩ | ⟨h1, i, h, h2, h3⟩
      · refine .inl ⟨h1, fun i h hi => ?_⟩
        cases i with
        | zero => simp at hi; subst hi; simpa using hy
        | succ i => have := h2 i h (by simpa using hi); rwa [show k + 1 + i = k + (i + 1) by omega] at this
      · exact .inr ⟨h1, i + 1, h, by simpa using h2, by rwa [show k + (i + 1) = k + 1 + i by omega]⟩
theorem pcheck_iff (l : List Rl) (held : List Hd) : (plan_Check_m l held = 0 ↔ RelOk l ∧ ∀ (i : Nat) (h : Hd), held[i]? = some h → HeldOk l h ∧ stepOk held i h) ∧ (RelOk l → plan_Check_m l held = 0 ∨ plan_Check_m l held = 300) ∧ (¬ RelOk l → plan_Check_m l held = 230) := by
  unfold plan_Check_m
  have ht := tcheck_iff l
  by_cases hr : RelOk l
  · rw [ht.1.2 hr, if_neg (fun k => k rfl)]
    rcases check_l1 l held held 0 with ⟨h1, h2⟩ | ⟨h1, i, h, h2, h3⟩
    · rw [h1, LR.on_go]
      exact ⟨⟨fun _ => ⟨hr, fun i h hi => by simpa using h2 i h hi⟩, fun _ => rfl⟩, fun _ => .inl rfl, fun k => absurd hr k⟩
    · rw [h1, LR.on_ret]
      exact ⟨⟨fun k => (by cases k), fun k => absurd (k.2 i h h2) (by simpa using h3)⟩, fun _ => .inr rfl, fun k => absurd hr k⟩
  · have h1 : trait_Check_m l ≠ 0 := fun k => hr (ht.1.1 k)
    rw [if_pos h1]
    exact ⟨⟨fun k => (by cases k), fun k => absurd k.1 hr⟩, fun k => absurd k hr, fun _ => rfl⟩
theorem pcheck_held {l : List Rl} {held : List Hd} (h : plan_Check_m l held = 0) {x : Hd} (hx : x ∈ held) : HeldOk l x := by
  obtain ⟨i, hi⟩ := List.mem_iff_getElem?.1 hx
  exact (((pcheck_iff l held).1.1 h).2 i x hi).1
/-- Whom a pair mentions: with which policy. -/
theorem ment_val {l : List Rl} {h : Hd} (hk : HeldOk l h) {n : Int} (hn : n = (ident_Parts_m h.2).1 ∨ n = (ident_Parts_m h.2).2) : ∃ p, trait_Policy_m l h.2 n = (p, true) ∧ (p = 0 ∨ p = 1 ∨ p = 2) ∧ (n, p) ∈ mentL l h := by
  obtain ⟨p, h1, h2⟩ := policy_val hk.2.2 hk.1 hn
  exact ⟨p, h1, h2, (mentL_mem l h n p).2 ⟨hn, h1⟩⟩
theorem says_iff (l : List Rl) (D : List Dh) (h : Hd) (p : Int) : saysB l D h p = true ↔ ∃ n, (n, p) ∈ mentL l h ∧ n ∈ D.map Prod.fst := by
  unfold saysB deadB
  rw [List.any_eq_true]
  constructor
  · rintro ⟨m, h1, h2⟩
    rw [Bool.and_eq_true, decide_eq_true_eq, decide_eq_true_eq] at h2
    exact ⟨m.1, by rw [← h2.2]; exact h1, h2.1⟩
  · rintro ⟨n, h1, h2⟩
    exact ⟨(n, p), h1, by rw [Bool.and_eq_true, decide_eq_true_eq, decide_eq_true_eq]; exact ⟨h2, rfl⟩⟩
/-- Whoever holds what kills dies too. -/
theorem dies_closed {l : List Rl} {held : List Hd} {first : List Int} (hh : held.length ≤ 100) (hf : first.length ≤ 100) {n : Int} (hn : n ∈ (diesD l held first).map Prod.fst) {h : Hd} (hm : h ∈ held) (hk : (n, 1) ∈ mentL l h) : h.1 ∈ (diesD l held first).map Prod.fst := by
  obtain ⟨met, h1, h2⟩ := dies_law (l := l) hh hf
  obtain ⟨d, hd, rfl⟩ := List.mem_map.1 hn
  obtain ⟨j, hj⟩ := List.mem_iff_getElem?.1 hd
  refine h2.cl j d (List.getElem?_eq_some_iff.1 hj).1 hj h ?_
  rw [kill_eq, List.mem_filter]
  exact ⟨hm, decide_eq_true hk⟩
theorem sortI_self {a : List Int} (h : a.Pairwise (· ≤ ·)) : sortI a = a :=
  List.Perm.eq_of_pairwise (le := (· ≤ ·)) (fun x y _ _ h1 h2 => by omega) (sortI_sorted _) h (sortI_perm a)
theorem mem_sortI {a : List Int} {x : Int} : x ∈ sortI a ↔ x ∈ a := (sortI_perm a).mem_iff
theorem deadB_iff (D : List Dh) (k : Int) : deadB D k = true ↔ k ∈ D.map Prod.fst := by unfold deadB; rw [decide_eq_true_eq]
/-! the layer does something -/
theorem sm_why : plan_Why_m smL smH 4 6 = ([(5, pairI 1 4), (6, pairI 1 5)], 0) := by kernel_rfl
theorem sm_why7 : plan_Why_m smL smH 4 7 = ([], 4) := by kernel_rfl
theorem wakes20_true : windroselaw20_wakes_m = true := by
  have e0 : windroselaw20_small_m = (smL, smH) := Prod.ext small_1 small_2
  have e1 : plan_Of_m smL smH [4] = (([4, 5, 6], smH.drop 2, smH.drop 3), 0) := by
    rw [of_eq sm_check (fun n hn => by rw [List.mem_singleton.1 hn]; unfold idxOk; omega), sm_dies]
    have e2 : sortI (([(4, []), (5, [(5, pairI 1 4)]), (6, [(5, pairI 1 4), (6, pairI 1 5)])] : List Dh).map Prod.fst) = [4, 5, 6] := sortI_self (by simp)
    rw [e2]
    have e3 : smH.filter (goneB smL ([(4, []), (5, [(5, pairI 1 4)]), (6, [(5, pairI 1 4), (6, pairI 1 5)])] : List Dh)) = smH.drop 2 := by kernel_rfl
    have e4 : smH.filter (refB smL ([(4, []), (5, [(5, pairI 1 4)]), (6, [(5, pairI 1 4), (6, pairI 1 5)])] : List Dh)) = smH.drop 3 := by kernel_rfl
    rw [e3, e4]
  have e5 : (plan_Of_m smL smH [3]).1.1 = [3, 8] ∧ (plan_Of_m smL smH [3]).2 = 0 := by
    rw [of_eq sm_check (fun n hn => by rw [List.mem_singleton.1 hn]; unfold idxOk; omega), sm_dies3]
    exact ⟨sortI_self (by simp), rfl⟩
  unfold windroselaw20_wakes_m
  simp only [LR.seq]
  rw [e0, e1, e5.1, e5.2, sm_why, sm_why7]
  simp
end Go.SX

set_option linter.unusedVariables false
set_option linter.unusedSimpArgs false
namespace Go.SX
open Go
theorem ment20_iff (h : Hd) (n : Int) : windroselaw20_mentions_m h n = true ↔ n = (ident_Parts_m h.2).1 ∨ n = (ident_Parts_m h.2).2 := by
  unfold windroselaw20_mentions_m
  rw [LR.seq_go, or_t, decide_eq_true_eq]
  constructor
  · rintro (h | h)
    · exact .inl h.symm
    · exact .inr h.symm
  · rintro (h | h)
    · exact .inl h.symm
    · exact .inr h.symm
/-- what is wrong with a pair that mentions one who dies -/
def wrongB (is : Bool) (p : Int) (A F G : Prop) [Decidable A] [Decidable F] [Decidable G] : Bool := !is || (!decide A && (decide (p = 1) || decide (p = 2) && !decide F || decide (p = 0) && !decide G))
theorem touch_l2 (r26 : List Rl × List Hd) (r34 : ((List Int) × (List Hd) × (List Hd)) × Int) (h : Hd) : ∀ (ns : List Int) (s : Bool), (∀ n ∈ ns, windroselaw20_mentions_m h n = true → wrongB (trait_Policy_m r26.1 h.2 n).2 (trait_Policy_m r26.1 h.2 n).1 (h.1 ∈ r34.1.1) (h ∈ r34.1.2.2) (h ∈ r34.1.2.1) = false) →
    windroselaw20_PlanTouches_l2 r26 r34 h ns s = .go (s || ns.any (fun n => windroselaw20_mentions_m h n))
  | [], s, _ => by rw [windroselaw20_PlanTouches_l2]; simp
  | n :: ns, s, hw => by
    rw [windroselaw20_PlanTouches_l2, List.any_cons]
    have ih := fun s => touch_l2 r26 r34 h ns s (fun m hm => hw m (List.mem_cons_of_mem _ hm))
    cases hm : windroselaw20_mentions_m h n with
    | false => rw [Bool.not_false, if_pos rfl, ih, Bool.false_or]
    | true =>
      rw [Bool.not_true, if_neg Bool.false_ne_true, LR.seq_go]
      have hb := hw n (List.mem_cons_self ..) hm
      generalize trait_Policy_m r26.1 h.2 n = r82 at *
      unfold wrongB at hb
      rw [LR.seq_go, if_neg]
      · rw [ih]; simp
      · by_cases A : h.1 ∈ r34.1.1 <;> by_cases F : h ∈ r34.1.2.2 <;> by_cases G : h ∈ r34.1.2.1 <;> cases hi : r82.2 <;> simp [A, F, G, hi] at hb ⊢ <;> simp_all
theorem touch_l1 (r26 : List Rl × List Hd) (r34 : ((List Int) × (List Hd) × (List Hd)) × Int) : ∀ (xs : List Hd), (∀ h ∈ xs, (∀ n ∈ r34.1.1, windroselaw20_mentions_m h n = true → wrongB (trait_Policy_m r26.1 h.2 n).2 (trait_Policy_m r26.1 h.2 n).1 (h.1 ∈ r34.1.1) (h ∈ r34.1.2.2) (h ∈ r34.1.2.1) = false) ∧ (h ∈ r34.1.2.1 ↔ (∃ n ∈ r34.1.1, windroselaw20_mentions_m h n = true) ∧ h.1 ∉ r34.1.1) ∧ (h ∈ r34.1.2.2 → h ∈ r34.1.2.1)) →
    windroselaw20_PlanTouches_l1 r26 r34 xs () = .go ()
  | [], _ => rfl
  | h :: xs, hx => by
    obtain ⟨h1, h2, h3⟩ := hx h (List.mem_cons_self ..)
    rw [windroselaw20_PlanTouches_l1, touch_l2 r26 r34 h r34.1.1 false h1, LR.on_go, Bool.false_or]
    have ih := touch_l1 r26 r34 xs (fun y hy => hx y (List.mem_cons_of_mem _ hy))
    have ha : (r34.1.1.any (fun n => windroselaw20_mentions_m h n) = true) ↔ ∃ n ∈ r34.1.1, windroselaw20_mentions_m h n = true := List.any_eq_true
    rw [LR.seq_go, if_neg, ih]
    cases hb : r34.1.1.any (fun n => windroselaw20_mentions_m h n) with
    | true =>
      have ht := ha.1 hb
      rw [if_pos rfl]
      by_cases A : h.1 ∈ r34.1.1
      · have G : h ∉ r34.1.2.1 := fun k => (h2.1 k).2 A
        have F : h ∉ r34.1.2.2 := fun k => G (h3 k)
        simp [A, G, F]
      · have G : h ∈ r34.1.2.1 := h2.2 ⟨ht, A⟩
        simp [A, G]
    | false =>
      have ht : ¬ ∃ n ∈ r34.1.1, windroselaw20_mentions_m h n = true := fun k => by have := ha.2 k; rw [hb] at this; cases this
      have G : h ∉ r34.1.2.1 := fun k => ht (h2.1 k).1
      have F : h ∉ r34.1.2.2 := fun k => G (h3 k)
      rw [if_neg Bool.false_ne_true]
      simp [G, F]
theorem ref_gone (l : List Rl) (D : List Dh) (h : Hd) (k : refB l D h = true) : goneB l D h = true := by
  unfold refB goneB at *
  rw [Bool.and_eq_true] at k ⊢
  exact ⟨k.1, by rw [k.2]; rfl⟩
theorem gone_iff {l : List Rl} {held : List Hd} (hc : plan_Check_m l held = 0) {first : List Int} (hh : held.length ≤ 100) (hf : first.length ≤ 100) {h : Hd} (hm : h ∈ held) :
    goneB l (diesD l held first) h = true ↔ (∃ n ∈ (diesD l held first).map Prod.fst, windroselaw20_mentions_m h n = true) ∧ h.1 ∉ (diesD l held first).map Prod.fst := by
  have hk := pcheck_held hc hm
  have hcl : ∀ n, n ∈ (diesD l held first).map Prod.fst → (n, 1) ∈ mentL l h → h.1 ∈ (diesD l held first).map Prod.fst := fun n hn hm1 => dies_closed hh hf hn hm hm1
  generalize diesD l held first = D at *
  unfold goneB
  rw [Bool.and_eq_true, Bool.or_eq_true, says_iff, says_iff]
  have hd : ((!deadB D h.1) = true) ↔ h.1 ∉ D.map Prod.fst := by
    rw [Bool.not_eq_true', ← Bool.not_eq_true, deadB_iff]
  rw [hd]
  constructor
  · rintro ⟨h1, h2⟩
    refine ⟨?_, h1⟩
    rcases h2 with ⟨n, h3, h4⟩ | ⟨n, h3, h4⟩
    · exact ⟨n, h4, (ment20_iff h n).2 ((mentL_mem l h n _).1 h3).1⟩
    · exact ⟨n, h4, (ment20_iff h n).2 ((mentL_mem l h n _).1 h3).1⟩
  · rintro ⟨⟨n, h3, h4⟩, h1⟩
    refine ⟨h1, ?_⟩
    obtain ⟨p, e, hp, hmem⟩ := ment_val hk ((ment20_iff h n).1 h4)
    rcases hp with rfl | rfl | rfl
    · exact .inr ⟨n, hmem, h3⟩
    · exact absurd (hcl n h3 hmem) h1
    · exact .inl ⟨n, hmem, h3⟩
theorem planTouches_true (a0 : List Rl) (a1 : List Hd) (a2 : List Int) : windroselaw20_PlanTouches_m a0 a1 a2 = true := by
  unfold windroselaw20_PlanTouches_m
  rw [wakes20_true, Bool.not_true, if_neg Bool.false_ne_true, LR.seq_go, LR.seq_go, LR.seq_go]
  have ho : (windroselaw20_own_m a0 a1).2.length ≤ 16 := by simp only [windroselaw20_own_m, List.length_take]; omega
  have hw : (windroselaw20_few_m a2).length ≤ 6 := by simp only [windroselaw20_few_m, List.length_take]; omega
  generalize windroselaw20_own_m a0 a1 = o at *
  generalize windroselaw20_few_m a2 = first at *
  by_cases hc : plan_Check_m o.1 o.2 = 0
  rotate_left
  · rw [of_bad hc, if_pos hc]; rfl
  by_cases hi : ∀ n ∈ first, idxOk n
  rotate_left
  · rw [of_arg hc hi, if_pos (by decide)]; rfl
  rw [of_eq hc hi]
  simp only
  rw [if_neg (fun k => k rfl), touch_l1, LR.on_go]
  · refine decide_eq_true ?_
    have h1 : (o.2.filter (refB o.1 (diesD o.1 o.2 first))).length ≤ (o.2.filter (goneB o.1 (diesD o.1 o.2 first))).length := by
      rw [← List.countP_eq_length_filter, ← List.countP_eq_length_filter]
      exact List.countP_mono_left (fun h _ k => ref_gone _ _ h k)
    show ((o.2.filter (refB o.1 (diesD o.1 o.2 first))).length : Int) ≤ ((o.2.filter (goneB o.1 (diesD o.1 o.2 first))).length : Int)
    omega
  · intro h hm
    have hk := pcheck_held hc hm
    have hg := gone_iff hc (first := first) (by omega) (by omega) hm
    have hcl : ∀ n, n ∈ (diesD o.1 o.2 first).map Prod.fst → (n, 1) ∈ mentL o.1 h → h.1 ∈ (diesD o.1 o.2 first).map Prod.fst := fun n hn hm1 => dies_closed (by omega) (by omega) hn hm hm1
    generalize diesD o.1 o.2 first = D at *
    have hG : h ∈ o.2.filter (goneB o.1 D) ↔ goneB o.1 D h = true := by rw [List.mem_filter]; exact ⟨fun k => k.2, fun k => ⟨hm, k⟩⟩
    have hF : h ∈ o.2.filter (refB o.1 D) ↔ refB o.1 D h = true := by rw [List.mem_filter]; exact ⟨fun k => k.2, fun k => ⟨hm, k⟩⟩
    simp only [mem_sortI, hG, hF]
    refine ⟨fun n hn hmn => ?_, hg, ref_gone _ _ h⟩
    obtain ⟨p, e, hp, hmem⟩ := ment_val hk ((ment20_iff h n).1 hmn)
    rw [e]
    by_cases A : h.1 ∈ D.map Prod.fst
    · unfold wrongB; simp [A, mem_sortI]
    · have hdead : deadB D h.1 = false := by rw [← Bool.not_eq_true, deadB_iff]; exact A
      rcases hp with rfl | rfl | rfl
      · have : goneB o.1 D h = true := hg.2 ⟨⟨n, hn, hmn⟩, A⟩
        unfold wrongB; simp [hG, hm, this]
      · exact absurd (hcl n hn hmem) A
      · have : refB o.1 D h = true := by
          unfold refB
          rw [hdead, (says_iff o.1 D h 2).2 ⟨n, hmem, hn⟩]; rfl
        unfold wrongB; simp [hF, hm, this]
end Go.SX

set_option linter.unusedVariables false
set_option linter.unusedSimpArgs false
namespace Go.SX
open Go Go.ChangeShapes Go.WideShapes Go.ChangeAt Go.RowKit

/-- All that stands in a world's memory can be read. -/
def heapOf (W : World) : Heap := fun b => W.heap[b]?
theorem sat_heapOf (W : World) : Sat (heapOf W) [] W := ⟨fun _ _ h => h, fun p h => (by cases h), List.nodup_nil, fun p h => (by cases h)⟩

/-- A contract of a function that hands back v, at a world. -/
theorem calls_of_Fv {P : Program} {f : FuncId} {fn : Func} {c : Code} {vs : List Value} {v : Value} {W : World} (hf : P.funcs[f]? = some fn) (hb : fn.body = some c) (hname : (fn.name == "runtime.NumGoroutine") = false)
    (h : Fv P (fnv f) vs (heapOf W) v) : Calls P f vs.toArray W fun e W' => e = .returned v ∧ Below W.heap.size W W' := by
  obtain ⟨nx, w1, h1, h2⟩ := h W (sat_heapOf W)
  have he := Go.Proofs.enters_of (P := P) hf hname hb vs.toArray W
  have hrun : Sem.run P (do let d ← Deferred.ofValue (fnv f) vs.toArray; invoke d.target d.args) W = .ok (.enter f vs.toArray) W := by
    simp [Deferred.ofValue, invoke, he]
  rw [hrun] at h1
  injection h1 with h1 h3
  subst h1; subst h3
  refine callsIn_wide.1 (CallsIn.mono h2 ?_)
  rintro e w' ⟨u, H', L', rfl, hst, rfl, rfl⟩
  exact ⟨rfl, hst.chg.os, hst.chg.tape, hst.chg.output, hst.chg.size, fun b hb => hst.chg.same b hb (by simp [keys])⟩

section
variable {H : Type} {enc : TypeId × Value → H} {P : Program}

theorem trodAll_below (hl : laidOutB P = true) {W W' : World} (hb : Below W.heap.size W W') {sp : Nat → Bool} : ∀ {ts : List TypeId} {vs : List Value} {ds : List (DataW H)} {p : List MemPlace},
    (∀ t ∈ ts, P.readableRec t = true ∧ t < P.types.size) → DataW.TrodAll enc P W 0 (fun _ => true) true ts vs ds p → (∀ q ∈ p, q.block < W.heap.size ∧ sp q.block = true) → DataW.TrodAll enc P W' 0 sp true ts vs ds p
  | [], _, _, _, _, h, _ => by
    obtain ⟨rfl, rfl, rfl⟩ := trodAll_nil h
    exact trodAll_mk0
  | t :: ts, _, _, _, ht, h, hp => by
    obtain ⟨v, vs, d, ds, a, b, rfl, rfl, rfl, h1, h2⟩ := trodAll_cons h
    have h3 := WideElems.Trod_stays (sp' := sp) hl (ht t (List.mem_cons_self ..)).1 (ht t (List.mem_cons_self ..)).2 h1 (fun x hx => hb.same (hp x (List.mem_append_left _ hx)).1) (fun x hx => (hp x (List.mem_append_left _ hx)).2)
    exact ⟨a, b, h3, trodAll_below hl hb (fun t' h' => ht t' (List.mem_cons_of_mem _ h')) h2 (fun x hx => hp x (List.mem_append_right _ hx)), rfl⟩

/-- What is asked behind a call that turned nothing of what there was, and says true. -/
theorem post_true {f : Func} {s : ChangeSpec} {fresh handsOn again : Bool} {W W' : World} {args : Array Value} {ds gs : List (DataW H)} {before : List MemPlace} {tb : TypeId} (hl : laidOutB P = true)
    (hW : DataW.Whole enc P f.params.toList s.vars false W args.toList ds gs before) (hvars : s.vars = []) (hpar : ∀ t ∈ f.params.toList, P.readableRec t = true ∧ t < P.types.size)
    (hs : s.fn H (ds ++ gs) = { results := [.lit (.bool true)], args := ds }) (hrt : f.resultTypes = #[tb]) (htb : P.underlying tb = some .bool) (hb : Below W.heap.size W W') :
    s.post enc P f false fresh handsOn again W args (.bool true) W' := by
  have hlt := hW.lt
  have hW0 := hW
  obtain ⟨p, q, hA, hV, rfl, hfz, hnd⟩ := hW
  rw [hvars] at hV
  obtain ⟨rfl, rfl⟩ := trodVars_none hV
  rw [List.append_nil] at hfz hlt
  have hres : ∀ (b : Nat) (sp : Nat → Bool) (hd : Bool), DataW.TrodAll enc P W' b sp hd f.resultTypes.toList ((Value.bool true).resultList f.resultTypes.size) [.lit (.bool true)] [] := by
    intro b sp hd
    rw [hrt]
    exact trodAll_mk1 (shut_bool htb true)
  have hargs : ∀ sp : Nat → Bool, (∀ x ∈ p, sp x.block = true) → DataW.TrodAll enc P W' 0 sp true f.params.toList args.toList ds p := fun sp hsp =>
    trodAll_below hl hb hpar hA (fun x hx => ⟨hlt x hx, hsp x hx⟩)
  have hvr : ∀ sp : Nat → Bool, DataW.TrodVars enc P W' sp s.vars ([] : List (DataW H)) [] := fun sp => by rw [hvars]; rfl
  refine ⟨ds, [], p ++ [], [], p, [], hW0, ?_, ?_, ?_, World.keptBut_mono (fun x hx => ⟨hx, ?_⟩) (hb.frame (· ∈ p ++ [])), fun _ => ?_⟩
  · rw [hs]; exact hres _ _ _
  · rw [hs]; exact hargs _ (fun x hx => by simpa using hlt x hx)
  · rw [hs]; exact hvr _
  · exact Or.inr (by simpa using hx)
  · refine ⟨ok_one hrt rfl (okWide_bool_mk htb true), _, _, ([] ++ p) ++ [], ⟨[] ++ p, [], trodAll_append (hargs _ (fun _ _ => rfl)) (hres _ _ _), hvr _, rfl, ?_, fun h => by cases h⟩, ?_⟩
    · intro b off hp
      have hp' : MemPlace.cell b off ∈ p := by simpa using hp
      have := hb.frozen (p := ⟨b, off, none⟩) (hlt _ hp')
      rw [this]
      exact hfz b off hp'
    · intro x hx _
      simpa using hx

theorem cellAt_heapOf {W : World} {b o : Nat} {v : Value} (h : W.cell? ⟨b, o, none⟩ = some v) : cellAt (heapOf W) b o = some v := by
  unfold World.cell? at h
  unfold cellAt heapOf
  simp only at h
  revert h
  cases hb : W.heap[b]? with
  | none => intro h; simp at h
  | some ob => cases ob <;> intro h <;> simp_all

end
end Go.SX

set_option linter.unusedVariables false
set_option linter.unusedSimpArgs false
namespace Go.SX
open Go Go.ChangeShapes Go.WideShapes Go.ChangeAt Go.RowKit Go.Deep
/-- What can be read at the type stands as E says. -/
def Opn (P : Program) (t : TypeId) {α : Type} (E : ER α) (Q : α → Prop) : Prop :=
  ∀ (H : Type) (enc : TypeId × Value → H) (W : World) (sp : Nat → Bool) (hd : Bool) (n : Nat) (cs : List Value) (x : DataW H × List MemPlace), DataW.trod enc P W 0 sp hd n t cs = some x → ∃ a, E.R (heapOf W) cs a ∧ Q a
theorem Opn.int {P : Program} {t : TypeId} {k : IntKind} (ht : P.underlying t = some (.int k)) : Opn P t (intE k) (fun x => (Lit.int k x).wf = true) := fun H enc W sp hd n cs x h => by
  obtain ⟨n, rfl, _, hw⟩ := DataW.trod_int ht h
  exact ⟨n, rfl, hw⟩
theorem Opn.bool {P : Program} {t : TypeId} (ht : P.underlying t = some .bool) : Opn P t boolE (fun _ => True) := fun H enc W sp hd n cs x h => by
  obtain ⟨b, rfl, _⟩ := DataW.trod_bool ht h
  exact ⟨b, rfl, trivial⟩
theorem Opn.weak {P : Program} {t : TypeId} {α : Type} {E : ER α} {Q Q' : α → Prop} (h : Opn P t E Q) (hq : ∀ a, Q a → Q' a) : Opn P t E Q' := fun H enc W sp hd n cs x hx => by
  obtain ⟨a, h1, h2⟩ := h H enc W sp hd n cs x hx
  exact ⟨a, h1, hq a h2⟩
/-- A struct of two ints. -/
theorem Opn.pair {P : Program} {t i : TypeId} {f0 f1 : Field} (ht : P.underlying t = some (.struct #[f0, f1])) (ct : P.cellsOf t = 2) (o0 : f0.offset = 0) (o1 : f1.offset = 1) (t0 : f0.type = i) (t1 : f1.type = i)
    (hi : P.underlying i = some (.int .i64)) (ci : P.cellsOf i = 1) : Opn P t pairE (fun _ => True) := fun H enc W sp hd n cs x h => by
  obtain ⟨xs, m, _, _, hl, hxl, hf⟩ := DataW.trod_struct ht h
  rw [ct] at hl
  match cs, hl, xs, hxl with
  | [v0, v1], _, [y0, y1], _ =>
    have g0 := hf 0 f0 rfl
    have g1 := hf 1 f1 rfl
    rw [o0, t0, ci] at g0
    rw [o1, t1, ci] at g1
    simp at g0 g1
    obtain ⟨a, ha, _⟩ := DataW.trod_int hi g0
    obtain ⟨b, hb, _⟩ := DataW.trod_int hi g1
    simp at ha hb
    subst ha; subst hb
    exact ⟨(a, b), rfl, trivial⟩
/-- An array of two ints. -/
theorem Opn.two {P : Program} {t i : TypeId} (ht : P.underlying t = some (.array 2 i)) (ct : P.cellsOf t = 2) (hi : P.underlying i = some (.int .i64)) (ci : P.cellsOf i = 1) : Opn P t pairE (fun _ => True) := fun H enc W sp hd n cs x h => by
  obtain ⟨xs, m, _, _, hl, hxl, hf⟩ := DataW.trod_array ht h
  rw [ct] at hl
  match cs, hl, xs, hxl with
  | [v0, v1], _, [y0, y1], _ =>
    have g0 := hf 0 (by omega)
    have g1 := hf 1 (by omega)
    rw [ci] at g0 g1
    simp at g0 g1
    obtain ⟨a, ha, _⟩ := DataW.trod_int hi g0
    obtain ⟨b, hb, _⟩ := DataW.trod_int hi g1
    simp at ha hb
    subst ha; subst hb
    exact ⟨(a, b), rfl, trivial⟩
/-- A slice. -/
theorem Opn.slice {P : Program} {t e : TypeId} {α : Type} {E : ER α} {Q : α → Prop} (ht : P.underlying t = some (.slice e)) (hc : P.cellsOf e = E.size) (he : Opn P e E Q) (hs : 0 < E.size) : Opn P t (slE E) (fun xs => ∀ x ∈ xs, Q x) := fun H enc W sp hd n cs x h => by
  rcases open_slice ht h with ⟨rfl, _⟩ | ⟨a, len, cap, m, n', D, Pl, rfl, _, hl, hm, hmm, _, hx⟩
  · exact ⟨[], ⟨_, rfl, RdS.nil⟩, fun x hx => by simp at hx⟩
  · have key : ∀ i, i < len → ∃ x, (∃ b o, a = ⟨b, o, none⟩ ∧ ElemAt E (heapOf W) b (o + i * E.size) x) ∧ Q x := fun i hi => by
      obtain ⟨cs', h1, h2⟩ := hx i (by rw [hmm]; split <;> omega)
      obtain ⟨x, h3, h4⟩ := he H enc W sp hd n' cs' _ h2
      refine ⟨x, ?_, h4⟩
      rw [hc] at h1
      obtain ⟨_, hlen, hcell⟩ := World.cells?_some h1
      obtain ⟨ab, ao, asp⟩ := a
      cases asp with
      | none =>
        refine ⟨ab, ao, rfl, cs', h3, fun j u hj => ?_⟩
        have hjl : j < E.size := by rw [← hlen]; exact (List.getElem?_eq_some_iff.1 hj).1
        have h5 := hcell j hjl
        rw [hj, add_add, Addr.add_lit] at h5
        have := cellAt_heapOf h5
        rw [show ao + i * E.size + j = ao + (i * E.size + j) by omega]
        exact this
      | some s =>
        exfalso
        obtain ⟨cs0, k1, _⟩ := hx 0 (by rw [hmm]; split <;> omega)
        rw [hc, Nat.zero_mul, Addr.add_zero'] at k1
        obtain ⟨_, klen, kcell⟩ := World.cells?_some k1
        have h5 := kcell 0 hs
        rw [Addr.add_zero'] at h5
        obtain ⟨u, hu⟩ : ∃ u, cs0[0]? = some u := ⟨cs0[0], List.getElem?_eq_getElem (by omega)⟩
        rw [hu] at h5
        unfold World.cell? at h5
        revert h5
        cases hb : W.heap[ab]? with
        | none => intro h; simp [hb] at h
        | some ob => cases ob <;> intro h <;> simp [hb] at h
    obtain ⟨f, hf⟩ : ∃ f : Nat → Option α, ∀ i, i < len → ∃ x, f i = some x ∧ (∃ b o, a = ⟨b, o, none⟩ ∧ ElemAt E (heapOf W) b (o + i * E.size) x) ∧ Q x := by
      classical
      refine ⟨fun i => if hi : i < len then some (Classical.choose (key i hi)) else none, fun i hi => ?_⟩
      exact ⟨_, dif_pos hi, Classical.choose_spec (key i hi)⟩
    have hxs : ∀ n, n ≤ len → ∃ xs : List α, xs.length = n ∧ ∀ i, i < n → xs[i]? = f i := fun n => by
      induction n with
      | zero => exact fun _ => ⟨[], rfl, fun i hi => absurd hi (Nat.not_lt_zero _)⟩
      | succ n ih =>
        intro hn
        obtain ⟨xs, h1, h2⟩ := ih (by omega)
        obtain ⟨x, h3, _⟩ := hf n (by omega)
        refine ⟨xs ++ [x], by simp [h1], fun i hi => ?_⟩
        by_cases h : i < n
        · rw [List.getElem?_append_left (by omega)]; exact h2 i h
        · obtain rfl : i = n := by omega
          rw [List.getElem?_append_right (by omega), h1, Nat.sub_self, h3]; rfl
    obtain ⟨xs, h1, h2⟩ := hxs len (Nat.le_refl _)
    subst h1
    refine ⟨xs, ⟨_, rfl, some a, cap, rfl, hl, hm, fun i x hx => ?_⟩, fun x hx => ?_⟩
    · have hi : i < xs.length := (List.getElem?_eq_some_iff.1 hx).1
      obtain ⟨y, h3, ⟨b, o, h4, h5⟩, _⟩ := hf i hi
      rw [h2 i hi, h3] at hx
      injection hx with hx
      subst hx
      exact ⟨b, o, by rw [h4], h5⟩
    · obtain ⟨i, hi, rfl⟩ := List.mem_iff_getElem.1 hx
      obtain ⟨y, h3, _, h4⟩ := hf i hi
      have := h2 i hi
      rw [h3, List.getElem?_eq_getElem hi] at this
      injection this with this
      rw [this]; exact h4
section
variable {P : Program} {H : Type} {enc : TypeId × Value → H} {W : World} {r : Reach} {b0 : Nat} {t : TypeId} {v : Value} {d : DataW H} {p : List MemPlace} {α : Type} {E : ER α} {Q : α → Prop}
/-- A slice that is handed in. -/
theorem open_sl {e : TypeId} (ht : P.underlying t = some (.slice e)) (ho : Opn P t (slE E) (fun xs => ∀ x ∈ xs, Q x)) (hval : Value.okWide P W r b0 t v) (h : DataW.Trod enc P W 0 (fun _ => true) true t v d p) :
    ∃ xs : List α, RdS E (heapOf W) v xs ∧ ∀ x ∈ xs, Q x := by
  obtain ⟨a0, len, cap, rfl⟩ := okWide_slice ht hval
  obtain ⟨n, hn⟩ := h
  obtain ⟨xs, ⟨u, h1, h2⟩, h3⟩ := ho H enc W _ _ n _ _ hn
  have : Value.slice a0 len cap = u := by simpa [Value.cells] using h1
  rw [this]
  exact ⟨xs, h2, h3⟩
end
end Go.SX

set_option linter.unusedVariables false
set_option linter.unusedSimpArgs false
namespace Go.SX
open Go Go.ChangeShapes Go.WideShapes Go.ChangeAt Go.RowKit Go.Proofs
def traitsE : ER (Bool × Bool × Int × Int × Int) where
  size := 5
  R := fun _ cs x => cs = [.bool x.1, .bool x.2.1, .int .i64 x.2.2.1, .int .i64 x.2.2.2.1, .int .i64 x.2.2.2.2]
  len := fun h => by subst h; rfl
  mono := fun _ h => h
  one := fun h v hv => by subst h; simp only [List.mem_cons, List.not_mem_nil, or_false] at hv; rcases hv with rfl | rfl | rfl | rfl | rfl <;> rfl

theorem lenN2 {α : Type} {l : List α} (h : l.length = 2) : ∃ v0 v1, l = [v0, v1] := by
  match l, h with
  | [v0, v1], _ => exact ⟨v0, v1, rfl⟩
theorem lenN5 {α : Type} {l : List α} (h : l.length = 5) : ∃ v0 v1 v2 v3 v4, l = [v0, v1, v2, v3, v4] := by
  match l, h with
  | [v0, v1, v2, v3, v4], _ => exact ⟨v0, v1, v2, v3, v4, rfl⟩
theorem lenN6 {α : Type} {l : List α} (h : l.length = 6) : ∃ v0 v1 v2 v3 v4 v5, l = [v0, v1, v2, v3, v4, v5] := by
  match l, h with
  | [v0, v1, v2, v3, v4, v5], _ => exact ⟨v0, v1, v2, v3, v4, v5, rfl⟩
theorem lenN12 {α : Type} {l : List α} (h : l.length = 12) : ∃ v0 v1 v2 v3 v4 v5 v6 v7 v8 v9 v10 v11, l = [v0, v1, v2, v3, v4, v5, v6, v7, v8, v9, v10, v11] := by
  match l, h with
  | [v0, v1, v2, v3, v4, v5, v6, v7, v8, v9, v10, v11], _ => exact ⟨v0, v1, v2, v3, v4, v5, v6, v7, v8, v9, v10, v11, rfl⟩
theorem opn76 : Opn Tryd.prog 76 traitsE (fun x => ((True) ∧ (True) ∧ ((Lit.int .i64 x.2.2.1).wf = true) ∧ ((Lit.int .i64 x.2.2.2.1).wf = true) ∧ ((Lit.int .i64 x.2.2.2.2).wf = true))) := fun H enc W sp hd n cs x h => by
  obtain ⟨xs, m, _, _, hl, hxl, hf⟩ := DataW.trod_struct Tryd.underlying76 h
  rw [show Tryd.prog.cellsOf 76 = 5 by kernel_rfl] at hl
  replace hxl : xs.length = 5 := hxl
  obtain ⟨v0, v1, v2, v3, v4, rfl⟩ := lenN5 hl
  obtain ⟨y0, y1, y2, y3, y4, rfl⟩ := lenN5 hxl
  have g0 : DataW.trod enc Tryd.prog W 0 sp hd m 4 (([v0, v1, v2, v3, v4].drop 0).take (Tryd.prog.cellsOf 4)) = some y0 := hf 0 _ rfl
  rw [show Tryd.prog.cellsOf 4 = 1 by kernel_rfl] at g0
  simp only [List.drop, List.take] at g0
  have g1 : DataW.trod enc Tryd.prog W 0 sp hd m 4 (([v0, v1, v2, v3, v4].drop 1).take (Tryd.prog.cellsOf 4)) = some y1 := hf 1 _ rfl
  rw [show Tryd.prog.cellsOf 4 = 1 by kernel_rfl] at g1
  simp only [List.drop, List.take] at g1
  have g2 : DataW.trod enc Tryd.prog W 0 sp hd m 3 (([v0, v1, v2, v3, v4].drop 2).take (Tryd.prog.cellsOf 3)) = some y2 := hf 2 _ rfl
  rw [show Tryd.prog.cellsOf 3 = 1 by kernel_rfl] at g2
  simp only [List.drop, List.take] at g2
  have g3 : DataW.trod enc Tryd.prog W 0 sp hd m 3 (([v0, v1, v2, v3, v4].drop 3).take (Tryd.prog.cellsOf 3)) = some y3 := hf 3 _ rfl
  rw [show Tryd.prog.cellsOf 3 = 1 by kernel_rfl] at g3
  simp only [List.drop, List.take] at g3
  have g4 : DataW.trod enc Tryd.prog W 0 sp hd m 3 (([v0, v1, v2, v3, v4].drop 4).take (Tryd.prog.cellsOf 3)) = some y4 := hf 4 _ rfl
  rw [show Tryd.prog.cellsOf 3 = 1 by kernel_rfl] at g4
  simp only [List.drop, List.take] at g4
  obtain ⟨x0, h0, _⟩ := DataW.trod_bool Tryd.underlying4 g0
  injection h0 with h0; subst h0
  obtain ⟨x1, h1, _⟩ := DataW.trod_bool Tryd.underlying4 g1
  injection h1 with h1; subst h1
  obtain ⟨x2, h2, _, w2⟩ := DataW.trod_int Tryd.underlying3 g2
  injection h2 with h2; subst h2
  obtain ⟨x3, h3, _, w3⟩ := DataW.trod_int Tryd.underlying3 g3
  injection h3 with h3; subst h3
  obtain ⟨x4, h4, _, w4⟩ := DataW.trod_int Tryd.underlying3 g4
  injection h4 with h4; subst h4
  exact ⟨(x0, x1, x2, x3, x4), rfl, ⟨trivial, trivial, w2, w3, w4⟩⟩
theorem opn78 : Opn Tryd.prog 78 relationE (fun x => (((Lit.int .i64 x.1).wf = true) ∧ (((True) ∧ (True) ∧ ((Lit.int .i64 x.2.2.2.1).wf = true) ∧ ((Lit.int .i64 x.2.2.2.2.1).wf = true) ∧ ((Lit.int .i64 x.2.2.2.2.2).wf = true))))) := fun H enc W sp hd n cs x h => by
  obtain ⟨xs, m, _, _, hl, hxl, hf⟩ := DataW.trod_struct Tryd.underlying78 h
  rw [show Tryd.prog.cellsOf 78 = 6 by kernel_rfl] at hl
  replace hxl : xs.length = 2 := hxl
  obtain ⟨v0, v1, v2, v3, v4, v5, rfl⟩ := lenN6 hl
  obtain ⟨y0, y1, rfl⟩ := lenN2 hxl
  have g0 : DataW.trod enc Tryd.prog W 0 sp hd m 3 (([v0, v1, v2, v3, v4, v5].drop 0).take (Tryd.prog.cellsOf 3)) = some y0 := hf 0 _ rfl
  rw [show Tryd.prog.cellsOf 3 = 1 by kernel_rfl] at g0
  simp only [List.drop, List.take] at g0
  have g1 : DataW.trod enc Tryd.prog W 0 sp hd m 76 (([v0, v1, v2, v3, v4, v5].drop 1).take (Tryd.prog.cellsOf 76)) = some y1 := hf 1 _ rfl
  rw [show Tryd.prog.cellsOf 76 = 5 by kernel_rfl] at g1
  simp only [List.drop, List.take] at g1
  obtain ⟨x0, h0, _, w0⟩ := DataW.trod_int Tryd.underlying3 g0
  injection h0 with h0; subst h0
  obtain ⟨x1, h1, w1⟩ := opn76 H enc W sp hd _ _ _ g1
  obtain ⟨rfl, rfl, rfl, rfl, rfl⟩ : v1 = .bool x1.1 ∧ v2 = .bool x1.2.1 ∧ v3 = .int .i64 x1.2.2.1 ∧ v4 = .int .i64 x1.2.2.2.1 ∧ v5 = .int .i64 x1.2.2.2.2 := by have h := h1; simp only [traitsE] at h; simpa using h
  exact ⟨(x0, x1), rfl, ⟨w0, w1⟩⟩
theorem opn73 : Opn Tryd.prog 73 heldE (fun x => (((Lit.int .i64 x.1).wf = true) ∧ ((Lit.int .u64 x.2).wf = true))) := fun H enc W sp hd n cs x h => by
  obtain ⟨xs, m, _, _, hl, hxl, hf⟩ := DataW.trod_struct Tryd.underlying73 h
  rw [show Tryd.prog.cellsOf 73 = 2 by kernel_rfl] at hl
  replace hxl : xs.length = 2 := hxl
  obtain ⟨v0, v1, rfl⟩ := lenN2 hl
  obtain ⟨y0, y1, rfl⟩ := lenN2 hxl
  have g0 : DataW.trod enc Tryd.prog W 0 sp hd m 3 (([v0, v1].drop 0).take (Tryd.prog.cellsOf 3)) = some y0 := hf 0 _ rfl
  rw [show Tryd.prog.cellsOf 3 = 1 by kernel_rfl] at g0
  simp only [List.drop, List.take] at g0
  have g1 : DataW.trod enc Tryd.prog W 0 sp hd m 32 (([v0, v1].drop 1).take (Tryd.prog.cellsOf 32)) = some y1 := hf 1 _ rfl
  rw [show Tryd.prog.cellsOf 32 = 1 by kernel_rfl] at g1
  simp only [List.drop, List.take] at g1
  obtain ⟨x0, h0, _, w0⟩ := DataW.trod_int Tryd.underlying3 g0
  injection h0 with h0; subst h0
  obtain ⟨x1, h1, _, w1⟩ := DataW.trod_int Tryd.underlying32 g1
  injection h1 with h1; subst h1
  exact ⟨(x0, x1), rfl, ⟨w0, w1⟩⟩

end Go.SX
namespace Go.Proofs.YtmhoclmjgjopfaaDoor
open Go.ChangeShapes Go.WideShapes Go.ChangeAt Go.RowKit Go.SX

theorem planTouches_own : ownKnob Tryd.prog.godebug = none := by kernel_rfl
theorem planTouches_laid : laidOutB Tryd.prog = true := by kernel_rfl
theorem planTouches_met (os : Os) (args : Array Value) : laidMetH Tryd.prog Rows.planTouchesRow.laid ((World.doorLaid Tryd.prog 400 os).forCall (fun _ _ => 0) ⟨#[], args, []⟩).memory :=
  laidMetH_of_parts3 (fuel := 12) (laidMet_of_run' 12 (by kernel_rfl) (by kernel_rfl)) (by kernel_rfl) (by kernel_rfl)
theorem planTouches_dat_0_1 {W : World} {H : Type} {enc : TypeId × Value → H} {sp : Nat → Bool} {hh : Bool} {n : Nat} {cs : List Value} {x : DataW H × List MemPlace} (h : DataW.trod enc Tryd.prog W 0 sp hh n 76 cs = some x) (hd : x.1 = .agg [.lit (.bool true), .lit (.bool true), .lit (.int .i64 0), .lit (.int .i64 1), .lit (.int .i64 2)]) : cs = [.bool true, .bool true, .int .i64 0, .int .i64 1, .int .i64 2] := by
  obtain ⟨xs, m, _, hx1, hl, hxl, hf⟩ := DataW.trod_struct Tryd.underlying76 h
  rw [show Tryd.prog.cellsOf 76 = 5 by kernel_rfl] at hl
  replace hxl : xs.length = 5 := hxl
  obtain ⟨v0, v1, v2, v3, v4, rfl⟩ := lenN5 hl
  obtain ⟨y0, y1, y2, y3, y4, rfl⟩ := lenN5 hxl
  subst hx1
  simp only [List.map_cons, List.map_nil, DataW.agg.injEq, List.cons.injEq, and_true] at hd
  obtain ⟨e0, e1, e2, e3, e4⟩ := hd
  have g0 : DataW.trod enc Tryd.prog W 0 sp hh m 4 (([v0, v1, v2, v3, v4].drop 0).take (Tryd.prog.cellsOf 4)) = some y0 := hf 0 _ rfl
  rw [show Tryd.prog.cellsOf 4 = 1 by kernel_rfl] at g0
  have G0 : DataW.trod enc Tryd.prog W 0 sp hh m 4 [v0] = some y0 := g0
  clear g0
  have g1 : DataW.trod enc Tryd.prog W 0 sp hh m 4 (([v0, v1, v2, v3, v4].drop 1).take (Tryd.prog.cellsOf 4)) = some y1 := hf 1 _ rfl
  rw [show Tryd.prog.cellsOf 4 = 1 by kernel_rfl] at g1
  have G1 : DataW.trod enc Tryd.prog W 0 sp hh m 4 [v1] = some y1 := g1
  clear g1
  have g2 : DataW.trod enc Tryd.prog W 0 sp hh m 3 (([v0, v1, v2, v3, v4].drop 2).take (Tryd.prog.cellsOf 3)) = some y2 := hf 2 _ rfl
  rw [show Tryd.prog.cellsOf 3 = 1 by kernel_rfl] at g2
  have G2 : DataW.trod enc Tryd.prog W 0 sp hh m 3 [v2] = some y2 := g2
  clear g2
  have g3 : DataW.trod enc Tryd.prog W 0 sp hh m 3 (([v0, v1, v2, v3, v4].drop 3).take (Tryd.prog.cellsOf 3)) = some y3 := hf 3 _ rfl
  rw [show Tryd.prog.cellsOf 3 = 1 by kernel_rfl] at g3
  have G3 : DataW.trod enc Tryd.prog W 0 sp hh m 3 [v3] = some y3 := g3
  clear g3
  have g4 : DataW.trod enc Tryd.prog W 0 sp hh m 3 (([v0, v1, v2, v3, v4].drop 4).take (Tryd.prog.cellsOf 3)) = some y4 := hf 4 _ rfl
  rw [show Tryd.prog.cellsOf 3 = 1 by kernel_rfl] at g4
  have G4 : DataW.trod enc Tryd.prog W 0 sp hh m 3 [v4] = some y4 := g4
  clear g4
  clear hf h
  obtain ⟨a0, h0, k0⟩ := DataW.trod_bool Tryd.underlying4 G0
  subst k0
  injection h0 with h0; subst h0
  simp only [DataW.lit.injEq, Lit.int.injEq, Lit.bool.injEq, true_and] at e0; subst e0
  obtain ⟨a1, h1, k1⟩ := DataW.trod_bool Tryd.underlying4 G1
  subst k1
  injection h1 with h1; subst h1
  simp only [DataW.lit.injEq, Lit.int.injEq, Lit.bool.injEq, true_and] at e1; subst e1
  obtain ⟨a2, h2, k2, _⟩ := DataW.trod_int Tryd.underlying3 G2
  subst k2
  injection h2 with h2; subst h2
  simp only [DataW.lit.injEq, Lit.int.injEq, Lit.bool.injEq, true_and] at e2; subst e2
  obtain ⟨a3, h3, k3, _⟩ := DataW.trod_int Tryd.underlying3 G3
  subst k3
  injection h3 with h3; subst h3
  simp only [DataW.lit.injEq, Lit.int.injEq, Lit.bool.injEq, true_and] at e3; subst e3
  obtain ⟨a4, h4, k4, _⟩ := DataW.trod_int Tryd.underlying3 G4
  subst k4
  injection h4 with h4; subst h4
  simp only [DataW.lit.injEq, Lit.int.injEq, Lit.bool.injEq, true_and] at e4; subst e4
  rfl
theorem planTouches_dat_0 {W : World} {H : Type} {enc : TypeId × Value → H} {sp : Nat → Bool} {hh : Bool} {n : Nat} {cs : List Value} {x : DataW H × List MemPlace} (h : DataW.trod enc Tryd.prog W 0 sp hh n 78 cs = some x) (hd : x.1 = .agg [.lit (.int .i64 1), .agg [.lit (.bool true), .lit (.bool true), .lit (.int .i64 0), .lit (.int .i64 1), .lit (.int .i64 2)]]) : cs = [.int .i64 1, .bool true, .bool true, .int .i64 0, .int .i64 1, .int .i64 2] := by
  obtain ⟨xs, m, _, hx1, hl, hxl, hf⟩ := DataW.trod_struct Tryd.underlying78 h
  rw [show Tryd.prog.cellsOf 78 = 6 by kernel_rfl] at hl
  replace hxl : xs.length = 2 := hxl
  obtain ⟨v0, v1, v2, v3, v4, v5, rfl⟩ := lenN6 hl
  obtain ⟨y0, y1, rfl⟩ := lenN2 hxl
  subst hx1
  simp only [List.map_cons, List.map_nil, DataW.agg.injEq, List.cons.injEq, and_true] at hd
  obtain ⟨e0, e1⟩ := hd
  have g0 : DataW.trod enc Tryd.prog W 0 sp hh m 3 (([v0, v1, v2, v3, v4, v5].drop 0).take (Tryd.prog.cellsOf 3)) = some y0 := hf 0 _ rfl
  rw [show Tryd.prog.cellsOf 3 = 1 by kernel_rfl] at g0
  have G0 : DataW.trod enc Tryd.prog W 0 sp hh m 3 [v0] = some y0 := g0
  clear g0
  have g1 : DataW.trod enc Tryd.prog W 0 sp hh m 76 (([v0, v1, v2, v3, v4, v5].drop 1).take (Tryd.prog.cellsOf 76)) = some y1 := hf 1 _ rfl
  rw [show Tryd.prog.cellsOf 76 = 5 by kernel_rfl] at g1
  have G1 : DataW.trod enc Tryd.prog W 0 sp hh m 76 [v1, v2, v3, v4, v5] = some y1 := g1
  clear g1
  clear hf h
  obtain ⟨a0, h0, k0, _⟩ := DataW.trod_int Tryd.underlying3 G0
  subst k0
  injection h0 with h0; subst h0
  simp only [DataW.lit.injEq, Lit.int.injEq, Lit.bool.injEq, true_and] at e0; subst e0
  have q1 := planTouches_dat_0_1 G1 e1
  simp only [List.cons.injEq, and_true] at q1
  obtain ⟨rfl, rfl, rfl, rfl, rfl⟩ := q1
  rfl
theorem planTouches_dat_1_1 {W : World} {H : Type} {enc : TypeId × Value → H} {sp : Nat → Bool} {hh : Bool} {n : Nat} {cs : List Value} {x : DataW H × List MemPlace} (h : DataW.trod enc Tryd.prog W 0 sp hh n 76 cs = some x) (hd : x.1 = .agg [.lit (.bool true), .lit (.bool false), .lit (.int .i64 0), .lit (.int .i64 0), .lit (.int .i64 2)]) : cs = [.bool true, .bool false, .int .i64 0, .int .i64 0, .int .i64 2] := by
  obtain ⟨xs, m, _, hx1, hl, hxl, hf⟩ := DataW.trod_struct Tryd.underlying76 h
  rw [show Tryd.prog.cellsOf 76 = 5 by kernel_rfl] at hl
  replace hxl : xs.length = 5 := hxl
  obtain ⟨v0, v1, v2, v3, v4, rfl⟩ := lenN5 hl
  obtain ⟨y0, y1, y2, y3, y4, rfl⟩ := lenN5 hxl
  subst hx1
  simp only [List.map_cons, List.map_nil, DataW.agg.injEq, List.cons.injEq, and_true] at hd
  obtain ⟨e0, e1, e2, e3, e4⟩ := hd
  have g0 : DataW.trod enc Tryd.prog W 0 sp hh m 4 (([v0, v1, v2, v3, v4].drop 0).take (Tryd.prog.cellsOf 4)) = some y0 := hf 0 _ rfl
  rw [show Tryd.prog.cellsOf 4 = 1 by kernel_rfl] at g0
  have G0 : DataW.trod enc Tryd.prog W 0 sp hh m 4 [v0] = some y0 := g0
  clear g0
  have g1 : DataW.trod enc Tryd.prog W 0 sp hh m 4 (([v0, v1, v2, v3, v4].drop 1).take (Tryd.prog.cellsOf 4)) = some y1 := hf 1 _ rfl
  rw [show Tryd.prog.cellsOf 4 = 1 by kernel_rfl] at g1
  have G1 : DataW.trod enc Tryd.prog W 0 sp hh m 4 [v1] = some y1 := g1
  clear g1
  have g2 : DataW.trod enc Tryd.prog W 0 sp hh m 3 (([v0, v1, v2, v3, v4].drop 2).take (Tryd.prog.cellsOf 3)) = some y2 := hf 2 _ rfl
  rw [show Tryd.prog.cellsOf 3 = 1 by kernel_rfl] at g2
  have G2 : DataW.trod enc Tryd.prog W 0 sp hh m 3 [v2] = some y2 := g2
  clear g2
  have g3 : DataW.trod enc Tryd.prog W 0 sp hh m 3 (([v0, v1, v2, v3, v4].drop 3).take (Tryd.prog.cellsOf 3)) = some y3 := hf 3 _ rfl
  rw [show Tryd.prog.cellsOf 3 = 1 by kernel_rfl] at g3
  have G3 : DataW.trod enc Tryd.prog W 0 sp hh m 3 [v3] = some y3 := g3
  clear g3
  have g4 : DataW.trod enc Tryd.prog W 0 sp hh m 3 (([v0, v1, v2, v3, v4].drop 4).take (Tryd.prog.cellsOf 3)) = some y4 := hf 4 _ rfl
  rw [show Tryd.prog.cellsOf 3 = 1 by kernel_rfl] at g4
  have G4 : DataW.trod enc Tryd.prog W 0 sp hh m 3 [v4] = some y4 := g4
  clear g4
  clear hf h
  obtain ⟨a0, h0, k0⟩ := DataW.trod_bool Tryd.underlying4 G0
  subst k0
  injection h0 with h0; subst h0
  simp only [DataW.lit.injEq, Lit.int.injEq, Lit.bool.injEq, true_and] at e0; subst e0
  obtain ⟨a1, h1, k1⟩ := DataW.trod_bool Tryd.underlying4 G1
  subst k1
  injection h1 with h1; subst h1
  simp only [DataW.lit.injEq, Lit.int.injEq, Lit.bool.injEq, true_and] at e1; subst e1
  obtain ⟨a2, h2, k2, _⟩ := DataW.trod_int Tryd.underlying3 G2
  subst k2
  injection h2 with h2; subst h2
  simp only [DataW.lit.injEq, Lit.int.injEq, Lit.bool.injEq, true_and] at e2; subst e2
  obtain ⟨a3, h3, k3, _⟩ := DataW.trod_int Tryd.underlying3 G3
  subst k3
  injection h3 with h3; subst h3
  simp only [DataW.lit.injEq, Lit.int.injEq, Lit.bool.injEq, true_and] at e3; subst e3
  obtain ⟨a4, h4, k4, _⟩ := DataW.trod_int Tryd.underlying3 G4
  subst k4
  injection h4 with h4; subst h4
  simp only [DataW.lit.injEq, Lit.int.injEq, Lit.bool.injEq, true_and] at e4; subst e4
  rfl
theorem planTouches_dat_1 {W : World} {H : Type} {enc : TypeId × Value → H} {sp : Nat → Bool} {hh : Bool} {n : Nat} {cs : List Value} {x : DataW H × List MemPlace} (h : DataW.trod enc Tryd.prog W 0 sp hh n 78 cs = some x) (hd : x.1 = .agg [.lit (.int .i64 2), .agg [.lit (.bool true), .lit (.bool false), .lit (.int .i64 0), .lit (.int .i64 0), .lit (.int .i64 2)]]) : cs = [.int .i64 2, .bool true, .bool false, .int .i64 0, .int .i64 0, .int .i64 2] := by
  obtain ⟨xs, m, _, hx1, hl, hxl, hf⟩ := DataW.trod_struct Tryd.underlying78 h
  rw [show Tryd.prog.cellsOf 78 = 6 by kernel_rfl] at hl
  replace hxl : xs.length = 2 := hxl
  obtain ⟨v0, v1, v2, v3, v4, v5, rfl⟩ := lenN6 hl
  obtain ⟨y0, y1, rfl⟩ := lenN2 hxl
  subst hx1
  simp only [List.map_cons, List.map_nil, DataW.agg.injEq, List.cons.injEq, and_true] at hd
  obtain ⟨e0, e1⟩ := hd
  have g0 : DataW.trod enc Tryd.prog W 0 sp hh m 3 (([v0, v1, v2, v3, v4, v5].drop 0).take (Tryd.prog.cellsOf 3)) = some y0 := hf 0 _ rfl
  rw [show Tryd.prog.cellsOf 3 = 1 by kernel_rfl] at g0
  have G0 : DataW.trod enc Tryd.prog W 0 sp hh m 3 [v0] = some y0 := g0
  clear g0
  have g1 : DataW.trod enc Tryd.prog W 0 sp hh m 76 (([v0, v1, v2, v3, v4, v5].drop 1).take (Tryd.prog.cellsOf 76)) = some y1 := hf 1 _ rfl
  rw [show Tryd.prog.cellsOf 76 = 5 by kernel_rfl] at g1
  have G1 : DataW.trod enc Tryd.prog W 0 sp hh m 76 [v1, v2, v3, v4, v5] = some y1 := g1
  clear g1
  clear hf h
  obtain ⟨a0, h0, k0, _⟩ := DataW.trod_int Tryd.underlying3 G0
  subst k0
  injection h0 with h0; subst h0
  simp only [DataW.lit.injEq, Lit.int.injEq, Lit.bool.injEq, true_and] at e0; subst e0
  have q1 := planTouches_dat_1_1 G1 e1
  simp only [List.cons.injEq, and_true] at q1
  obtain ⟨rfl, rfl, rfl, rfl, rfl⟩ := q1
  rfl
theorem planTouches_dat {W : World} {H : Type} {enc : TypeId × Value → H} {sp : Nat → Bool} {hh : Bool} {n : Nat} {cs : List Value} {x : DataW H × List MemPlace} (h : DataW.trod enc Tryd.prog W 0 sp hh n 190 cs = some x) (hd : x.1 = .agg [.agg [.lit (.int .i64 1), .agg [.lit (.bool true), .lit (.bool true), .lit (.int .i64 0), .lit (.int .i64 1), .lit (.int .i64 2)]], .agg [.lit (.int .i64 2), .agg [.lit (.bool true), .lit (.bool false), .lit (.int .i64 0), .lit (.int .i64 0), .lit (.int .i64 2)]]]) : cs = [.int .i64 1, .bool true, .bool true, .int .i64 0, .int .i64 1, .int .i64 2, .int .i64 2, .bool true, .bool false, .int .i64 0, .int .i64 0, .int .i64 2] := by
  obtain ⟨xs, m, _, hx1, hl, hxl, hf⟩ := DataW.trod_array Tryd.underlying190 h
  rw [show Tryd.prog.cellsOf 190 = 12 by kernel_rfl] at hl
  replace hxl : xs.length = 2 := hxl
  obtain ⟨v0, v1, v2, v3, v4, v5, v6, v7, v8, v9, v10, v11, rfl⟩ := lenN12 hl
  obtain ⟨y0, y1, rfl⟩ := lenN2 hxl
  subst hx1
  simp only [List.map_cons, List.map_nil, DataW.agg.injEq, List.cons.injEq, and_true] at hd
  obtain ⟨e0, e1⟩ := hd
  have hc : Tryd.prog.cellsOf 78 = 6 := by kernel_rfl
  simp only [hc] at hf
  have g0 := hf 0 (by decide)
  have G0 : DataW.trod enc Tryd.prog W 0 sp hh m 78 [v0, v1, v2, v3, v4, v5] = some y0 := g0
  clear g0
  have g1 := hf 1 (by decide)
  have G1 : DataW.trod enc Tryd.prog W 0 sp hh m 78 [v6, v7, v8, v9, v10, v11] = some y1 := g1
  clear g1
  clear hf h
  have q0 := planTouches_dat_0 G0 e0
  simp only [List.cons.injEq, and_true] at q0
  obtain ⟨rfl, rfl, rfl, rfl, rfl, rfl⟩ := q0
  have q1 := planTouches_dat_1 G1 e1
  simp only [List.cons.injEq, and_true] at q1
  obtain ⟨rfl, rfl, rfl, rfl, rfl, rfl⟩ := q1
  rfl
theorem planTouches_glob {W : World} (h : laidMetH Tryd.prog Rows.planTouchesRow.laid W) : ∃ t, heapOf W 1 = some (.cells #[.int .i64 1, .bool true, .bool true, .int .i64 0, .int .i64 1, .int .i64 2, .int .i64 2, .bool true, .bool false, .int .i64 0, .int .i64 0, .int .i64 2] t) := by
  rw [MakeChecks.laidMetH_plain _ _ _ (by kernel_rfl)] at h
  obtain ⟨ps, ⟨g0, t0, cs0, f0, p0, q0, hg0, ht0, hv0, hd0, _, hps⟩, _, hrow⟩ := h
  obtain rfl := Option.some.inj ((show Tryd.prog.globalNamed "windrose/trait.first" = some 1 by kernel_rfl).symm.trans hg0)
  obtain rfl := Option.some.inj ((show (Tryd.prog.globals[1]?).map (·.type) = some 190 by kernel_rfl).symm.trans ht0)
  have hl := planTouches_dat hd0 rfl
  have hcs : cs0 = #[.int .i64 1, .bool true, .bool true, .int .i64 0, .int .i64 1, .int .i64 2, .int .i64 2, .bool true, .bool false, .int .i64 0, .int .i64 0, .int .i64 2] := Array.toList_inj.1 hl
  subst hcs
  have hm : MemPlace.cell 1 0 ∈ ps := by rw [hps]; simp [MemPlace.row]
  obtain ⟨⟨c, t, hh⟩, _⟩ := hrow 1 0 hm
  have hv := hv0
  simp only [World.var?, hg0, Option.bind_some, hh] at hv
  injection hv with hv
  subst hv
  exact ⟨t, hh⟩

set_option maxRecDepth 100000 in
theorem planTouches_lifted (os : Os) (started : os.Started) (H : Type) (enc : TypeId × Value → H) :
    ReturnsInHanded {} Tryd.checked os 10 .any (fun w args => (Rows.planTouchesSpec.pre enc Tryd.prog Tryd.f10 [] false w args ∧ laidMetH Tryd.prog Rows.planTouchesRow.laid w) ∧ sizedMet enc Tryd.prog Tryd.f10 (OpenSpec.ofChange Rows.planTouchesSpec) false w args)
      (Rows.planTouchesSpec.post enc Tryd.prog Tryd.f10 false true false false) := by
  refine returnsInHanded_of_change_and (C := Tryd.checked) (X := fun w _ => laidMetH Tryd.prog Rows.planTouchesRow.laid w) (fun _ _ _ hh h => h.of_heap hh) planTouches_own started (by kernel_rfl) Tryd.func10
    (ChangeSpec.witness_shaped (enc := enc) (C := Tryd.checked) (os := os) (X := fun w _ => laidMetH Tryd.prog Rows.planTouchesRow.laid w) false (World.doorLaid Tryd.prog 400 os) #[.slice none 0 0, .slice none 0 0, .slice none 0 0] 8 rfl (World.shaped_of_RefB (by kernel_rfl) (by kernel_rfl)) (by kernel_rfl) (by kernel_rfl) (by kernel_rfl) (planTouches_met os _)) ?_
  intro W base args ds gs before hval0 hW _ _ hL _
  have hval : ∀ (j : Nat) t v, Tryd.f10.params[j]? = some t → args[j]? = some v → Value.okWide Tryd.prog W .any base t v := hval0
  have hW' := hW
  obtain ⟨p, q, hA0, hV, rfl, hfz, hnd⟩ := hW
  have hA : DataW.TrodAll enc Tryd.prog W 0 (fun _ => true) true Tryd.f10.params.toList args.toList ds p := hA0
  rw [Tryd.params10] at hA hval
  clear hA0 hval0
  obtain ⟨v0, vs0, d0, ds0, p0, q0, e0, rfl, rfl, h0, r0⟩ := trodAll_cons hA
  obtain ⟨v1, vs1, d1, ds1, p1, q1, e1, rfl, rfl, h1, r1⟩ := trodAll_cons r0
  subst e1
  obtain ⟨v2, vs2, d2, ds2, p2, q2, e2, rfl, rfl, h2, r2⟩ := trodAll_cons r1
  subst e2
  obtain ⟨e3, rfl, rfl⟩ := trodAll_nil r2
  subst e3
  obtain rfl : args = #[v0, v1, v2] := by cases args; simp_all
  obtain ⟨rfl, rfl⟩ := trodVars_none hV
  obtain ⟨xs0, hr0, hw0⟩ := open_sl Tryd.underlying59 (Opn.slice Tryd.underlying59 (by kernel_rfl) opn78 (by decide)) (hval 0 59 v0 rfl rfl) h0
  obtain ⟨xs1, hr1, hw1⟩ := open_sl Tryd.underlying60 (Opn.slice Tryd.underlying60 (by kernel_rfl) opn73 (by decide)) (hval 1 60 v1 rfl rfl) h1
  obtain ⟨xs2, hr2, hw2⟩ := open_sl Tryd.underlying23 (Opn.slice Tryd.underlying23 (by kernel_rfl) (Opn.int Tryd.underlying3) (by decide)) (hval 2 23 v2 rfl rfl) h2
  have hpar : ∀ t ∈ Tryd.f10.params.toList, Tryd.prog.readableRec t = true ∧ t < Tryd.prog.types.size := by
    intro t ht
    rw [Tryd.params10] at ht
    simp only [List.mem_cons, List.not_mem_nil, or_false] at ht
    rcases ht with rfl | rfl | rfl
    · exact ⟨by kernel_rfl, of_decide_eq_true (by kernel_rfl)⟩
    · exact ⟨by kernel_rfl, of_decide_eq_true (by kernel_rfl)⟩
    · exact ⟨by kernel_rfl, of_decide_eq_true (by kernel_rfl)⟩
  obtain ⟨tG, hG⟩ := planTouches_glob hL
  refine (calls_of_Fv Tryd.func10 rfl (by kernel_rfl) (Fv.to (windroselaw20_PlanTouches_c _ hG _ xs0 hr0 _ xs1 hr1 _ xs2 hr2) (congrArg Value.bool (planTouches_true _ _ _)))).mono fun e W' ⟨he, hb⟩ => ?_
  subst he
  exact ⟨_, rfl, post_true planTouches_laid hW' rfl hpar rfl rfl Tryd.underlying4 hb⟩

theorem planTouches_holds : Rows.PlanTouchesSaid :=
  OpenClaim.holds_of_wide 10 Tryd.f10 rfl rfl rfl rfl rfl rfl rfl ⟨rfl, rfl, rfl, rfl, rfl⟩ rfl rfl rfl rfl rfl (by kernel_rfl) Tryd.func10 (by kernel_rfl)
    (of_decide_eq_true (by kernel_rfl)) (by unfold Func.isWrapper; first | (rw [if_pos (by decide +kernel)]; kernel_rfl) | (rw [if_neg (by decide +kernel)]; exact ⟨rfl, rfl⟩))
    (fun os started H enc _ => planTouches_lifted os started H enc)

theorem planTouches_card : Rows.PlanTouchesCardSaid :=
  Claim7.holds_tied_plain_at .later [] [.widerDeep] true (true, "c812bd16461893b59ff1c9b11575473a3dd7f925cadaefe779c83152ab813434") false
    planTouches_holds (fun _ h => by cases h) (by kernel_rfl) (fun _ h => by cases h) planTouches_row_tie rfl ⟨rfl, rfl⟩ (by kernel_rfl) rfl
    (fun f fn hf hfn => by
      obtain rfl : f = 10 := Option.some.inj ((show Tryd.prog.funcNamed "windrose/windroselaw20.PlanTouches" = some 10 by kernel_rfl).symm.trans hf) |>.symm
      obtain rfl : fn = Tryd.f10 := (Option.some.inj (Tryd.func10.symm.trans hfn)).symm
      exact ⟨by kernel_rfl, fun j t ht => by
        rw [Tryd.params10] at ht
        have hm : t ∈ [59, 60, 23] := by simpa using Array.mem_of_getElem? ht
        have hall : ([59, 60, 23].all fun u => !Tryd.prog.wantsStandIn u) = true := by kernel_rfl
        exact (show Tryd.prog.wantsStandIn t = false by simpa using List.all_eq_true.1 hall t hm)⟩)
    (by kernel_rfl)
end Go.Proofs.YtmhoclmjgjopfaaDoor
