/- 'IndexPatterns' answers true, whatever it is handed, and what it is handed reads behind it as it did. -/
import Derived.RangeFuncNested
import Derived.RangeFuncBound
import Derived.RangeFuncCalls
import Derived.RangeFuncLeaves
import Derived.Shelf.Abstract
import Derived.Laws.AppendOwn
import Derived.Laws.OwnMore
import Derived.KernelRfl
import Derived.IntWalk
import Derived.Laws.Append
import Derived.WideLaws
import Derived.Laws.Slices
import Derived.Laws.MakeOwn
import Derived.OrdersIn
import Derived.Laws.Cover3
import Derived.Test.YtmigaagkfglabaaProg
import Derived.Laws.StructEq
import Derived.Shelf.Sort.Plain
import Derived.Sort.OwnSortedInts
import Derived.Shelf.Slices.In.SortNone
import Derived.Maps.RangeRun
import Derived.Lib.AppendZeros
import Derived.Sort.AssemblyPlain
import Derived.Shelf.Small.Bits
import Derived.Sort.Walk7a
import Derived.Laws.Bits64
import Derived.Laws.Bits64b
import Derived.Shelf.Spec.SlicesInsert
import Derived.Shelf.Spec.SlicesInsertGrow
import Derived.ProofKit
import Derived.ChangeSlices
import Derived.Carry
import Derived.Deep.Slices
import Derived.OpenShut
import Derived.Test.YtmigaagkfglabaaRows
import Derived.Test.YtmigaagkfglabaaKP5
set_option linter.unusedVariables false
set_option linter.unusedSimpArgs false
namespace Go.SX
open Go Go.Proofs

theorem turned_l2_len (a : List (Int × List Int)) (ids : List Int) (g : List Int → List Int) (B : Nat) (hg : ∀ z : List Int, (g z).length ≤ z.length + 1) (hB : ∀ q ∈ a, q.2.length ≤ B) : ∀ (l : List Int) (s : List (Int × List Int)), (∀ q ∈ s, q.2.length ≤ B + 1) → (index_turned_l2 a ids g l s).length ≤ s.length + l.length ∧ ∀ q ∈ index_turned_l2 a ids g l s, q.2.length ≤ B + 1
  | [], s, hs => ⟨Nat.le_refl _, hs⟩
  | y :: ys, s, hs => by
    rw [index_turned_l2]
    simp only [LR.seq_go]
    generalize slices_BinarySearchFunc_Listed_m a (y, []) (fun z0 z1 => index_compare_m z0 z1) = r
    have h1 : (if r.2 = true then (a.getD r.1.toNat (0, [])).2 else [] : List Int).length ≤ B := by
      split
      · rcases getD_mem_or a r.1.toNat (0, []) with h | h
        · exact hB _ h
        · rw [h]; exact Nat.zero_le _
      · exact Nat.zero_le _
    generalize (if r.2 = true then (a.getD r.1.toNat (0, [])).2 else [] : List Int) = t at h1 ⊢
    have h2 : (if y ∈ ids then g t else t).length ≤ B + 1 := by
      split
      · have := hg t; omega
      · omega
    generalize (if y ∈ ids then g t else t) = u at h2 ⊢
    split
    · have := turned_l2_len a ids g B hg hB ys (s ++ [(y, u)]) (fun q hq => by
        rcases List.mem_append.1 hq with h | h
        · exact hs q h
        · rw [List.mem_singleton] at h; subst h; exact h2)
      rw [List.length_append, List.length_cons, List.length_nil] at this
      rw [List.length_cons]
      exact ⟨by omega, this.2⟩
    · have := turned_l2_len a ids g B hg hB ys s hs
      rw [List.length_cons]
      exact ⟨by omega, this.2⟩
theorem turned_l1_eq : ∀ (l : List (Int × List Int)) (s : List Int), index_turned_l1 l s = s ++ l.map Prod.fst
  | [], s => by simp [index_turned_l1]
  | y :: ys, s => by rw [index_turned_l1, turned_l1_eq ys]; simp
theorem turned_len (a : List (Int × List Int)) (ids : List Int) (g : List Int → List Int) (hg : ∀ z : List Int, (g z).length ≤ z.length + 1) :
    (index_turned_m a ids g).length ≤ ids.length + a.length ∧ ∀ B, (∀ q ∈ a, q.2.length ≤ B) → ∀ q ∈ index_turned_m a ids g, q.2.length ≤ B + 1 := by
  unfold index_turned_m
  simp only [LR.seq_go]
  rw [turned_l1_eq]
  have ho := once_len (ids ++ a.map Prod.fst) _ rfl
  rw [List.length_append, List.length_map] at ho
  refine ⟨?_, fun B hB => (turned_l2_len a ids g B hg hB _ [] (by simp)).2⟩
  obtain ⟨B, hB⟩ : ∃ B, ∀ q ∈ a, q.2.length ≤ B := by
    clear ho
    induction a with
    | nil => exact ⟨0, fun q h => by cases h⟩
    | cons x a ih =>
      obtain ⟨B, h⟩ := ih
      exact ⟨B + x.2.length, fun q hq => by
        rcases List.mem_cons.1 hq with e | h1
        · subst e; omega
        · have := h q h1; omega⟩
  have := (turned_l2_len a ids g B hg hB (index_once_m (ids ++ a.map Prod.fst)) [] (by simp)).1
  rw [List.length_nil] at this; omega
theorem put1_len (n : Int) (z : List Int) : (index_Put_1_m n z).length ≤ z.length + 1 := by
  unfold index_Put_1_m
  rw [LR.seq_go]
  unfold ins
  rw [List.length_append, List.length_cons, List.length_take, List.length_drop]; omega
theorem put_len (a : List (Int × List Int)) (n : Int) (l : List Int) (r : List (Int × List Int) × Int) (e : r = index_Put_m a n l) : r.1.length ≤ a.length + 48 ∧ ∀ B, (∀ q ∈ a, q.2.length ≤ B) → ∀ q ∈ r.1, q.2.length ≤ B + 1 := by
  unfold index_Put_m at e
  simp only [LR.seq_go] at e
  have hz : ∀ k : Int, r = (([] : List (Int × List Int)), k) → r.1.length ≤ a.length + 48 ∧ ∀ B, (∀ q ∈ a, q.2.length ≤ B) → ∀ q ∈ r.1, q.2.length ≤ B + 1 := fun k h => by
    rw [h]; exact ⟨Nat.zero_le _, fun _ _ q hq => by cases hq⟩
  split at e
  · exact hz _ e
  · split at e
    · exact hz _ e
    · split at e
      · exact hz _ e
      · split at e
        · exact hz _ e
        · have h1 := turned_len a (index_Keys_m l) (fun z => index_Put_1_m n z) (put1_len n)
          have h2 := Keys_len l _ rfl
          rw [e]
          exact ⟨by simp only; omega, h1.2⟩
def windroselaw14_own_l1  : List (Int × (List Int)) → ((List (Int × (List Int)))) → (List (Int × (List Int)))
  | [], sl1 => sl1
  | yl1 :: ysl1, sl1 => windroselaw14_own_l1 ysl1 ((sl1 ++ [(yl1.1, (yl1.2.take ((min yl1.2.length 12))))]))
def windroselaw14_own_m (a0 : (List (Int × (List Int)))) : ((List (Int × (List Int)))) :=
  LR.seq (windroselaw14_own_l1 (a0.take ((min a0.length 60))) []) (fun ol1 => ol1)
set_option maxHeartbeats 3200000 in
theorem windroselaw14_own_c (H : Heap) (a0 : (List (Int × (List Int)))) (va0_0 : Value) (ha0_0 : RdS listedE H va0_0 a0) : Fc Try.prog (fnv 24) [.agg #[va0_0]] H [] (fun v' H' L' => ∃ u0_0 c0_0, v' = .agg #[u0_0] ∧ L' = [c0_0] ∧ OwnS listedE 55 H' u0_0 (windroselaw14_own_m a0) c0_0) := by
  refine Fc.of_body (N := 36) Try.func24 rfl (by kernel_rfl) rfl rfl ?_
  intro w0
  obtain ⟨Aa0_0, ca0_0, rfl, hca0_0, hda0_0, ha0_0⟩ := ha0_0.shape
  refine T.seq ?_
  refine T.region ?_
  refine R.box rfl (by conv => lhs; whnf) ?_
  intro b1
  refine R.alloc Try.zeroValue46 rfl ?_
  intro b2
  refine TL.shut (.tl .hd) ?_
  intro Hb1_1 sb1_1 qb1_1
  have hb1_1 : Hb1_1 b1 = some (.cells #[.slice Aa0_0 a0.length ca0_0] 46) := shut1 qb1_1
  refine TL.nil (Post.thnN ?_)
  refine T.seq ?_
  refine T.region ?_
  refine R.alloc Try.zeroValue46 rfl ?_
  intro b3
  refine TL.nil (Post.thnN ?_)
  refine T.seq ?_
  refine T.seq ?_
  refine T.region ?_
  refine R.fldA Try.underlying46 rfl Try.sizeOf44 (by decide) rfl rfl ?_
  refine R.ldH Try.isAgg44 rfl rfl hb1_1 rfl ?_
  refine R.fldA Try.underlying46 rfl Try.sizeOf44 (by decide) rfl rfl ?_
  refine R.ldH Try.isAgg44 rfl rfl hb1_1 rfl ?_
  refine R.len Try.underlying44 rfl rfl ?_
  refine R.min2 rfl rfl rfl ?_
  refine TL.set 11 (.int .i64 ((min a0.length 60 : Nat) : Int)) (congrArg (Value.int .i64) (by split <;> omega)) ?_
  have z12 := RdS.takeC (ha0_0.mono sb1_1) (i := (min a0.length 60)) (by omega) (by omega)
  obtain ⟨x12, e12⟩ : ∃ x, x = (a0.take ((min a0.length 60))) := ⟨_, rfl⟩
  rw [← e12] at z12
  obtain ⟨A12, p12, q12, m12, n12, r12⟩ := RdS.shape z12
  have t12 : x12.length ≤ a0.length := by rw [e12]; simp; try omega
  have t12_ : x12.length = min ((min a0.length 60)) a0.length := by rw [e12]; simp
  refine R.sH Try.underlying44 Try.sizeOf55 rfl rfl rfl (by omega) (by omega)  ?_
  refine TL.set 12 (.slice A12 x12.length p12) (by first | exact q12 | (rw [← q12]; simp; done) | (rw [← q12]; rfl)) ?_
  refine R.len Try.underlying44 rfl rfl ?_
  refine R.mvE rfl (by conv => lhs; whnf) ?_
  refine TL.nil (Post.thnN ?_)
  refine T.block ?_
  refine T.loop (ι := Nat × Value × (List (Int × (List Int))) × Chunk) (fun ⟨kl1, vb3l1_0, xb3l1_0, cb3l1_0⟩ H' L' ds' => kl1 ≤ x12.length ∧ Has L' [[(b3, .cells #[vb3l1_0] 46)], [(b2, .cells #[.slice none 0 0] 46)], cb3l1_0] ∧ OwnS listedE 55 H' vb3l1_0 xb3l1_0 cb3l1_0 ∧ xb3l1_0.length ≤ kl1 ∧ windroselaw14_own_l1 (x12.drop kl1) xb3l1_0 = windroselaw14_own_l1 x12 []) (fun ⟨kl1, vb3l1_0, xb3l1_0, cb3l1_0⟩ => [(14, .int .i64 (kl1 : Int)), (2, .pointer (some ⟨b2, 0, none⟩)), (3, .pointer (some ⟨b3, 0, none⟩)), (12, .slice A12 x12.length p12), (13, .int .i64 (x12.length : Int))]) (fun ⟨kl1, vb3l1_0, xb3l1_0, cb3l1_0⟩ => x12.length - kl1) (0, .slice none 0 0, [], []) ?_ ?_ ?_
  · exact ⟨(by omega), (Has.cons .hd (Has.cons .hd (Has.none Has.nil))), OwnS.nil, (by first | omega | (simp; done) | (simp; omega) | (simp at *; omega)), (by rfl)⟩
  · exact ⟨rfl, rfl, rfl, rfl, rfl, trivial⟩
  intro ⟨kl1, vb3l1_0, xb3l1_0, cb3l1_0⟩ σ_l1 H_l1 L_l1 ds_l1 s_l1 hI_l1
  obtain ⟨hkl1, hI_l1⟩ := hI_l1
  obtain ⟨hLl1, wb3l1_0, hBl1_0, hQl1⟩ := hI_l1
  obtain ⟨Ab3l1_0, pb3l1_0, rfl, mb3l1_0, nb3l1_0_⟩ := OwnS.shape wb3l1_0
  refine T.has hLl1 ?_
  refine T.seq ?_
  refine T.region ?_
  refine R.lss rfl rfl rfl ?_
  refine TL.nil (Post.thnN ?_)
  refine T.seq ?_
  refine T.condD rfl (fun c15 => ?_) (fun c15 => ?_)
  · have hltl1 : kl1 < x12.length := by omega
    obtain ⟨yl1, hyl1⟩ := getk (xs := x12) (k := kl1) (by omega)
    refine T.skip (Post.thnN ?_)
    refine T.seq ?_
    refine T.block ?_
    refine T.seq ?_
    refine T.region ?_
    obtain ⟨b16, o16, i16, k16⟩ := RdS.elem (r12.mono s_l1) hyl1
    obtain ⟨l16, g16, k16⟩ := k16
    obtain ⟨z16_1, rfl, r16_1⟩ := g16
    obtain ⟨A16_1, p16_1, rfl, m16_1, n16_1, r16_1⟩ := r16_1.shape
    refine R.ixp Try.underlying44 Try.sizeOf55 rfl rfl rfl (by omega) i16 ?_
    refine R.ldK (l := [.int .u64 (yl1.1), .slice A16_1 yl1.2.length p16_1]) Try.isAgg55 Try.sizeOf55 rfl rfl k16 rfl ?_
    refine R.alloc Try.zeroValue55 rfl ?_
    intro b5
    refine R.stX (old := [.int .u64 0, .slice none 0 0]) (l := [.int .u64 (yl1.1), .slice A16_1 yl1.2.length p16_1]) (new := [.int .u64 (yl1.1), .slice A16_1 yl1.2.length p16_1]) (et := 55) Try.sizeOf55 rfl rfl rfl rfl rfl (by show 0 + 2 ≤ 2; decide) rfl (all_one rfl) .hd ?_
    refine TL.shut .hd ?_
    intro Hb5_2 sb5_2 qb5_2
    have hb5_2 : Hb5_2 b5 = some (.cells #[.int .u64 (yl1.1), .slice A16_1 yl1.2.length p16_1] 55) := shut1 qb5_2
    refine TL.nil (Post.thnN ?_)
    refine T.draw Try_mixed (by kernel_rfl) ?_
    refine Plan.v 0 [1, 2, 3, 4, 5, 6, 7, 8, 9, 10, 11, 12, 13, 14, 15, 16] (by kernel_rfl) (by kernel_rfl) (by kernel_rfl) (by kernel_rfl) rfl (fun _ _ h_ => R.fldA Try.underlying46 rfl Try.sizeOf44 (by decide) rfl rfl (TL.nil h_)) ?_
    refine Plan.v 2 [1, 3, 4, 5, 6, 7, 8, 9, 10, 11, 12, 13, 14, 15, 16] (by kernel_rfl) (by kernel_rfl) (by kernel_rfl) (by kernel_rfl) rfl (fun _ _ h_ => R.fldA Try.underlying55 rfl Try.sizeOf26 (by decide) rfl rfl (TL.nil h_)) ?_
    refine Plan.v 3 [1, 4, 5, 6, 7, 8, 9, 10, 11, 12, 13, 14, 15, 16] (by kernel_rfl) (by kernel_rfl) (by kernel_rfl) (by kernel_rfl) rfl (fun _ _ h_ => R.ldH Try.isAgg26 rfl rfl hb5_2 rfl (TL.nil h_)) ?_
    refine Plan.v 4 [1, 5, 6, 7, 8, 9, 10, 11, 12, 13, 14, 15, 16] (by kernel_rfl) (by kernel_rfl) (by kernel_rfl) (by kernel_rfl) rfl (fun _ _ h_ => R.fldA Try.underlying55 rfl Try.sizeOf37 (by decide) rfl rfl (TL.nil h_)) ?_
    refine Plan.v 5 [1, 6, 7, 8, 9, 10, 11, 12, 13, 14, 15, 16] (by kernel_rfl) (by kernel_rfl) (by kernel_rfl) (by kernel_rfl) rfl (fun _ _ h_ => R.ldH Try.isAgg37 rfl rfl hb5_2 rfl (TL.nil h_)) ?_
    refine Plan.v 6 [1, 7, 8, 9, 10, 11, 12, 13, 14, 15, 16] (by kernel_rfl) (by kernel_rfl) (by kernel_rfl) (by kernel_rfl) rfl (fun _ _ h_ => R.fldA Try.underlying55 rfl Try.sizeOf37 (by decide) rfl rfl (TL.nil h_)) ?_
    refine Plan.v 7 [1, 8, 9, 10, 11, 12, 13, 14, 15, 16] (by kernel_rfl) (by kernel_rfl) (by kernel_rfl) (by kernel_rfl) rfl (fun _ _ h_ => R.ldH Try.isAgg37 rfl rfl hb5_2 rfl (TL.nil h_)) ?_
    refine Plan.v 8 [1, 9, 10, 11, 12, 13, 14, 15, 16] (by kernel_rfl) (by kernel_rfl) (by kernel_rfl) (by kernel_rfl) rfl (fun _ _ h_ => R.len Try.underlying37 rfl rfl (TL.nil h_)) ?_
    refine Plan.v 9 [1, 10, 11, 12, 13, 14, 15, 16] (by kernel_rfl) (by kernel_rfl) (by kernel_rfl) (by kernel_rfl) rfl (fun _ _ h_ => R.min2 rfl rfl rfl (TL.nil h_)) ?_
    refine Plan.set 27 (.int .i64 ((min yl1.2.length 12 : Nat) : Int)) (congrArg (Value.int .i64) (by split <;> omega)) ?_
    have z28 := RdS.takeC (r16_1.mono sb5_2) (i := (min yl1.2.length 12)) (by omega) (by omega)
    obtain ⟨x28, e28⟩ : ∃ x, x = (yl1.2.take ((min yl1.2.length 12))) := ⟨_, rfl⟩
    rw [← e28] at z28
    obtain ⟨A28, p28, q28, m28, n28, r28⟩ := RdS.shape z28
    have t28 : x28.length ≤ yl1.2.length := by rw [e28]; simp; try omega
    have t28_ : x28.length = min ((min yl1.2.length 12)) yl1.2.length := by rw [e28]; simp
    refine Plan.v 10 [1, 11, 12, 13, 14, 15, 16] (by kernel_rfl) (by kernel_rfl) (by kernel_rfl) (by kernel_rfl) rfl (fun _ _ h_ => R.sH Try.underlying37 Try.sizeOf3 rfl rfl rfl (by omega) (by omega)  (TL.nil h_)) ?_
    refine Plan.set 28 (.slice A28 x28.length p28) (by first | exact q28 | (rw [← q28]; simp; done) | (rw [← q28]; rfl)) ?_
    refine Plan.s2 1 11 [11, 12, 13, 14, 15, 16] [1, 12, 13, 14, 15, 16] (by kernel_rfl) (by kernel_rfl) (by kernel_rfl) rfl rfl ?_ ?_
    · refine R.ld Try.isAgg44 rfl rfl .hd rfl ?_
      refine TL.nil (Plan.e1 (HLe.refl _) ?_)
      refine Plan.s1 11 [12, 13, 14, 15, 16] (by kernel_rfl) (by kernel_rfl) rfl ?_
      refine TL.call [] rfl rfl rfl (clone37_c _ _ x28 r28 (by first | omega | (simp; done) | (simp; omega) | (simp at *; omega))) ?_
      intro v29 H29 L29 s29 q29
      obtain ⟨c29, rfl, w29⟩ := q29
      obtain ⟨x29, e29⟩ : ∃ x, x = x28 := ⟨_, rfl⟩
      rw [← e29] at w29
      obtain ⟨A29, p29, rfl, m29, n29⟩ := OwnS.shape w29
      have t29 : x29.length = x28.length := by rw [e29]
      refine TL.nil (Plan.e1 (s29) ?_)
      refine Plan.v 12 [13, 14, 15, 16] (by kernel_rfl) (by kernel_rfl) (by kernel_rfl) (by kernel_rfl) rfl (fun _ _ h_ => R.bld (cs := [.int .u64 (yl1.1), .slice A29 x29.length p29]) rfl (fun _ => by kernel_rfl) (TL.nil h_)) ?_
      refine Plan.s1 13 [14, 15, 16] (by kernel_rfl) (by kernel_rfl) rfl ?_
      refine TL.shut .hd ?_
      intro HF29_4 sF29_4 qF29_4
      have fF29_4 := OwnS.read w29 sF29_4 qF29_4
      refine R.bs (e := 55) (cs := [.int .u64 (yl1.1), .slice A29 x29.length p29]) rfl (fun _ => by kernel_rfl) ?_
      intro b31
      have w31 : OwnS listedE 55 HF29_4 (.slice (some ⟨b31, 0, none⟩) 1 1) [(yl1.1, x29)] [(b31, .cells #[.int .u64 (yl1.1), .slice A29 x29.length p29] 55)] := OwnS.lit (xs := [(yl1.1, x29)]) (cellsOf_cons (a := [.int .u64 (yl1.1), .slice A29 x29.length p29]) ⟨_, rfl, fF29_4⟩ cellsOf_nil) (by show 1 ≤ maxLen; decide)
      refine TL.nil (Plan.e1 (sF29_4) ?_)
      refine Plan.s1 14 [15, 16] (by kernel_rfl) (by kernel_rfl) rfl ?_
      obtain ⟨k32, y32, r32⟩ := Src.ownA w31
      refine R.app (E := listedE) (e := 55) (xs := xb3l1_0) (ys := [(yl1.1, x29)]) Try_ty44 rfl rfl rfl (OwnS.mono wb3l1_0 (sb5_2.trans (s29.trans sF29_4))) (.tl (.tl (.tl .hd))) (r32 _ .hd) y32 (by (try simp only [List.length_append, List.length_cons, List.length_nil, List.length_replicate, List.length_take, List.length_drop]); omega) (by (try simp only [List.length_append, List.length_cons, List.length_nil, List.length_replicate, List.length_take, List.length_drop]); omega) ?_
      intro v32 c32 w32
      obtain ⟨A32, p32, rfl, m32, n32⟩ := OwnS.shape w32
      refine TL.del (.tl .hd) ?_
      refine TL.nil (Plan.e1 (HLe.refl _) ?_)
      refine Plan.v 15 [16] (by kernel_rfl) (by kernel_rfl) (by kernel_rfl) (by kernel_rfl) rfl (fun _ _ h_ => R.fldA Try.underlying46 rfl Try.sizeOf44 (by decide) rfl rfl (TL.nil h_)) ?_
      refine Plan.s1 16 [] (by kernel_rfl) (by kernel_rfl) rfl ?_
      refine R.stX (old := [.slice Ab3l1_0 xb3l1_0.length pb3l1_0]) (l := [.slice A32 (xb3l1_0 ++ [(yl1.1, x29)]).length p32]) (new := [.slice A32 (xb3l1_0 ++ [(yl1.1, x29)]).length p32]) (et := 46) Try.sizeOf44 rfl rfl rfl (cells1 rfl) rfl (by show 0 + 1 ≤ 1; decide) rfl (all_one rfl) (.tl .hd) ?_
      refine TL.nil (Plan.e0 (HLe.refl _) ?_)
      refine Plan.done (Post.blkN ?_)
      refine id (Post.thnN ?_)
      refine T.region ?_
      refine R.addI rfl rfl rfl (by omega) ?_
      refine R.mvE rfl (by conv => lhs; whnf) ?_
      refine TL.nil (Post.thnN ?_)
      exact ⟨(kl1 + 1, .slice A32 (xb3l1_0 ++ [(yl1.1, x29)]).length p32, (xb3l1_0 ++ [(yl1.1, x29)]), c32), (s_l1.trans (sb5_2.trans (s29.trans sF29_4))), ⟨(by omega), (Has.cons (.tl .hd) (Has.cons (.tl .hd) (Has.cons .hd Has.nil))), w32, (by first | omega | (simp; done) | (simp; omega) | (simp at *; omega)), (by subst e29; subst e28; rw [← hQl1, drop_cons hyl1, windroselaw14_own_l1])⟩, by show x12.length - (kl1 + 1) < x12.length - kl1; omega, rfl, rfl, rfl, rfl, rfl, trivial⟩
    refine TL.call [] rfl rfl rfl (clone37_c _ _ x28 r28 (by first | omega | (simp; done) | (simp; omega) | (simp at *; omega))) ?_
    intro v29 H29 L29 s29 q29
    obtain ⟨c29, rfl, w29⟩ := q29
    obtain ⟨x29, e29⟩ : ∃ x, x = x28 := ⟨_, rfl⟩
    rw [← e29] at w29
    obtain ⟨A29, p29, rfl, m29, n29⟩ := OwnS.shape w29
    have t29 : x29.length = x28.length := by rw [e29]
    refine TL.nil (Plan.e1 (s29) ?_)
    refine Plan.v 12 [1, 13, 14, 15, 16] (by kernel_rfl) (by kernel_rfl) (by kernel_rfl) (by kernel_rfl) rfl (fun _ _ h_ => R.bld (cs := [.int .u64 (yl1.1), .slice A29 x29.length p29]) rfl (fun _ => by kernel_rfl) (TL.nil h_)) ?_
    refine Plan.s2 1 13 [13, 14, 15, 16] [1, 14, 15, 16] (by kernel_rfl) (by kernel_rfl) (by kernel_rfl) rfl rfl ?_ ?_
    · refine R.ld Try.isAgg44 rfl rfl (.tl .hd) rfl ?_
      refine TL.nil (Plan.e1 (HLe.refl _) ?_)
      refine Plan.s1 13 [14, 15, 16] (by kernel_rfl) (by kernel_rfl) rfl ?_
      refine TL.shut .hd ?_
      intro HF29_7 sF29_7 qF29_7
      have fF29_7 := OwnS.read w29 sF29_7 qF29_7
      refine R.bs (e := 55) (cs := [.int .u64 (yl1.1), .slice A29 x29.length p29]) rfl (fun _ => by kernel_rfl) ?_
      intro b31
      have w31 : OwnS listedE 55 HF29_7 (.slice (some ⟨b31, 0, none⟩) 1 1) [(yl1.1, x29)] [(b31, .cells #[.int .u64 (yl1.1), .slice A29 x29.length p29] 55)] := OwnS.lit (xs := [(yl1.1, x29)]) (cellsOf_cons (a := [.int .u64 (yl1.1), .slice A29 x29.length p29]) ⟨_, rfl, fF29_7⟩ cellsOf_nil) (by show 1 ≤ maxLen; decide)
      refine TL.nil (Plan.e1 (sF29_7) ?_)
      refine Plan.s1 14 [15, 16] (by kernel_rfl) (by kernel_rfl) rfl ?_
      obtain ⟨k32, y32, r32⟩ := Src.ownA w31
      refine R.app (E := listedE) (e := 55) (xs := xb3l1_0) (ys := [(yl1.1, x29)]) Try_ty44 rfl rfl rfl (OwnS.mono wb3l1_0 (sb5_2.trans (s29.trans sF29_7))) (.tl (.tl (.tl .hd))) (r32 _ .hd) y32 (by (try simp only [List.length_append, List.length_cons, List.length_nil, List.length_replicate, List.length_take, List.length_drop]); omega) (by (try simp only [List.length_append, List.length_cons, List.length_nil, List.length_replicate, List.length_take, List.length_drop]); omega) ?_
      intro v32 c32 w32
      obtain ⟨A32, p32, rfl, m32, n32⟩ := OwnS.shape w32
      refine TL.del (.tl .hd) ?_
      refine TL.nil (Plan.e1 (HLe.refl _) ?_)
      refine Plan.v 15 [16] (by kernel_rfl) (by kernel_rfl) (by kernel_rfl) (by kernel_rfl) rfl (fun _ _ h_ => R.fldA Try.underlying46 rfl Try.sizeOf44 (by decide) rfl rfl (TL.nil h_)) ?_
      refine Plan.s1 16 [] (by kernel_rfl) (by kernel_rfl) rfl ?_
      refine R.stX (old := [.slice Ab3l1_0 xb3l1_0.length pb3l1_0]) (l := [.slice A32 (xb3l1_0 ++ [(yl1.1, x29)]).length p32]) (new := [.slice A32 (xb3l1_0 ++ [(yl1.1, x29)]).length p32]) (et := 46) Try.sizeOf44 rfl rfl rfl (cells1 rfl) rfl (by show 0 + 1 ≤ 1; decide) rfl (all_one rfl) (.tl .hd) ?_
      refine TL.nil (Plan.e0 (HLe.refl _) ?_)
      refine Plan.done (Post.blkN ?_)
      refine id (Post.thnN ?_)
      refine T.region ?_
      refine R.addI rfl rfl rfl (by omega) ?_
      refine R.mvE rfl (by conv => lhs; whnf) ?_
      refine TL.nil (Post.thnN ?_)
      exact ⟨(kl1 + 1, .slice A32 (xb3l1_0 ++ [(yl1.1, x29)]).length p32, (xb3l1_0 ++ [(yl1.1, x29)]), c32), (s_l1.trans (sb5_2.trans (s29.trans sF29_7))), ⟨(by omega), (Has.cons (.tl .hd) (Has.cons (.tl .hd) (Has.cons .hd Has.nil))), w32, (by first | omega | (simp; done) | (simp; omega) | (simp at *; omega)), (by subst e29; subst e28; rw [← hQl1, drop_cons hyl1, windroselaw14_own_l1])⟩, by show x12.length - (kl1 + 1) < x12.length - kl1; omega, rfl, rfl, rfl, rfl, rfl, trivial⟩
    refine TL.shut .hd ?_
    intro HF29_8 sF29_8 qF29_8
    have fF29_8 := OwnS.read w29 sF29_8 qF29_8
    refine R.bs (e := 55) (cs := [.int .u64 (yl1.1), .slice A29 x29.length p29]) rfl (fun _ => by kernel_rfl) ?_
    intro b31
    have w31 : OwnS listedE 55 HF29_8 (.slice (some ⟨b31, 0, none⟩) 1 1) [(yl1.1, x29)] [(b31, .cells #[.int .u64 (yl1.1), .slice A29 x29.length p29] 55)] := OwnS.lit (xs := [(yl1.1, x29)]) (cellsOf_cons (a := [.int .u64 (yl1.1), .slice A29 x29.length p29]) ⟨_, rfl, fF29_8⟩ cellsOf_nil) (by show 1 ≤ maxLen; decide)
    refine TL.nil (Plan.e1 (sF29_8) ?_)
    refine Plan.s1 1 [14, 15, 16] (by kernel_rfl) (by kernel_rfl) rfl ?_
    refine R.ld Try.isAgg44 rfl rfl (.tl .hd) rfl ?_
    refine TL.nil (Plan.e1 (HLe.refl _) ?_)
    refine Plan.s1 14 [15, 16] (by kernel_rfl) (by kernel_rfl) rfl ?_
    obtain ⟨k32, y32, r32⟩ := Src.ownA w31
    refine R.app (E := listedE) (e := 55) (xs := xb3l1_0) (ys := [(yl1.1, x29)]) Try_ty44 rfl rfl rfl (OwnS.mono wb3l1_0 (sb5_2.trans (s29.trans sF29_8))) (.tl (.tl (.tl .hd))) (r32 _ .hd) y32 (by (try simp only [List.length_append, List.length_cons, List.length_nil, List.length_replicate, List.length_take, List.length_drop]); omega) (by (try simp only [List.length_append, List.length_cons, List.length_nil, List.length_replicate, List.length_take, List.length_drop]); omega) ?_
    intro v32 c32 w32
    obtain ⟨A32, p32, rfl, m32, n32⟩ := OwnS.shape w32
    refine TL.del (.tl .hd) ?_
    refine TL.nil (Plan.e1 (HLe.refl _) ?_)
    refine Plan.v 15 [16] (by kernel_rfl) (by kernel_rfl) (by kernel_rfl) (by kernel_rfl) rfl (fun _ _ h_ => R.fldA Try.underlying46 rfl Try.sizeOf44 (by decide) rfl rfl (TL.nil h_)) ?_
    refine Plan.s1 16 [] (by kernel_rfl) (by kernel_rfl) rfl ?_
    refine R.stX (old := [.slice Ab3l1_0 xb3l1_0.length pb3l1_0]) (l := [.slice A32 (xb3l1_0 ++ [(yl1.1, x29)]).length p32]) (new := [.slice A32 (xb3l1_0 ++ [(yl1.1, x29)]).length p32]) (et := 46) Try.sizeOf44 rfl rfl rfl (cells1 rfl) rfl (by show 0 + 1 ≤ 1; decide) rfl (all_one rfl) (.tl .hd) ?_
    refine TL.nil (Plan.e0 (HLe.refl _) ?_)
    refine Plan.done (Post.blkN ?_)
    refine id (Post.thnN ?_)
    refine T.region ?_
    refine R.addI rfl rfl rfl (by omega) ?_
    refine R.mvE rfl (by conv => lhs; whnf) ?_
    refine TL.nil (Post.thnN ?_)
    exact ⟨(kl1 + 1, .slice A32 (xb3l1_0 ++ [(yl1.1, x29)]).length p32, (xb3l1_0 ++ [(yl1.1, x29)]), c32), (s_l1.trans (sb5_2.trans (s29.trans sF29_8))), ⟨(by omega), (Has.cons (.tl .hd) (Has.cons (.tl .hd) (Has.cons .hd Has.nil))), w32, (by first | omega | (simp; done) | (simp; omega) | (simp at *; omega)), (by subst e29; subst e28; rw [← hQl1, drop_cons hyl1, windroselaw14_own_l1])⟩, by show x12.length - (kl1 + 1) < x12.length - kl1; omega, rfl, rfl, rfl, rfl, rfl, trivial⟩
  refine T.exit (Post.thnE (Post.thnE (Post.blkX ?_)))
  have hEl1 : windroselaw14_own_l1 x12 [] = xb3l1_0 := (hQl1.symm.trans (by rw [show kl1 = x12.length by omega, List.drop_length, windroselaw14_own_l1]))
  refine id (Post.thnN ?_)
  refine T.seq ?_
  refine T.region ?_
  refine R.ldX (cs := [.slice Ab3l1_0 xb3l1_0.length pb3l1_0]) (l := [.slice Ab3l1_0 xb3l1_0.length pb3l1_0]) Try.isAgg46 Try.sizeOf46 rfl rfl .hd rfl rfl ?_
  refine R.stX (old := [.slice none 0 0]) (l := [.slice Ab3l1_0 xb3l1_0.length pb3l1_0]) (new := [.slice Ab3l1_0 xb3l1_0.length pb3l1_0]) (et := 46) Try.sizeOf46 rfl rfl rfl rfl rfl (by show 0 + 1 ≤ 1; decide) rfl (all_one rfl) (.tl .hd) ?_
  refine TL.nil (Post.thnN ?_)
  refine T.has (Has.cons (.tl (.tl .hd)) (Has.cons (.tl .hd) Has.nil)) ?_
  refine T.ret ?_
  have hM : windroselaw14_own_m a0 = xb3l1_0 := by subst e12; rw [windroselaw14_own_m, hEl1, LR.seq_go]
  exact finR1 (v := .agg #[.slice Ab3l1_0 xb3l1_0.length pb3l1_0]) [cb3l1_0] rfl (.cellA (cs := [.slice Ab3l1_0 xb3l1_0.length pb3l1_0]) (l := [.slice Ab3l1_0 xb3l1_0.length pb3l1_0]) Try.isAgg46 Try.sizeOf46 rfl (.tl .hd) rfl rfl) (List.sublist_append_left ([cb3l1_0] : Own) _) ⟨.slice Ab3l1_0 xb3l1_0.length pb3l1_0, cb3l1_0, by first | rw [hM] | rfl, rfl, by rw [hM]; exact wb3l1_0⟩
theorem own_l1_len : ∀ (l s : List (Int × List Int)), (∀ q ∈ s, q.2.length ≤ 12) → (windroselaw14_own_l1 l s).length ≤ s.length + l.length ∧ ∀ q ∈ windroselaw14_own_l1 l s, q.2.length ≤ 12
  | [], s, hs => ⟨Nat.le_refl _, hs⟩
  | y :: ys, s, hs => by
    rw [windroselaw14_own_l1]
    have := own_l1_len ys (s ++ [(y.1, y.2.take (min y.2.length 12))]) (fun q hq => by
      rcases List.mem_append.1 hq with h | h
      · exact hs q h
      · rw [List.mem_singleton] at h; subst h; simp only [List.length_take]; omega)
    rw [List.length_append, List.length_cons, List.length_nil] at this
    rw [List.length_cons]
    exact ⟨by omega, this.2⟩
theorem own_len (a r : List (Int × List Int)) (e : r = windroselaw14_own_m a) : r.length ≤ 60 ∧ ∀ q ∈ r, q.2.length ≤ 12 := by
  unfold windroselaw14_own_m at e
  rw [LR.seq_go] at e
  have := own_l1_len (a.take (min a.length 60)) [] (by simp)
  rw [e]
  rw [List.length_nil, List.length_take] at this
  exact ⟨by omega, this.2⟩
def windroselaw14_few_m (a0 : List Int) : (List Int) :=
  (a0.take ((min a0.length 16)))
def windroselaw14_types_m  : (List Int) × (List Int) :=
  LR.seq (ident_Component_m 3) (fun r7 => LR.seq (ident_Pair_m 4 5) (fun r11 => ([r7.1], [r7.1, r11.1])))
set_option maxHeartbeats 3200000 in
theorem windroselaw14_types_c (H : Heap) : Fc Try.prog (fnv 71) [] H [] (fun v' H' L' => ∃ u0_0 u1_0 c0_0 c1_0, v' = .tuple #[u0_0, u1_0] ∧ L' = [c0_0, c1_0] ∧ OwnS (intE .u64) 26 H' u0_0 windroselaw14_types_m.1 c0_0 ∧ OwnS (intE .u64) 26 H' u1_0 windroselaw14_types_m.2 c1_0) := by
  refine Fc.of_body (N := 19) Try.func71 rfl (by kernel_rfl) rfl rfl ?_
  intro w0
  refine T.seq ?_
  refine T.region ?_
  refine R.asE rfl (by conv => lhs; whnf) ?_
  refine R.asE rfl (by conv => lhs; whnf) ?_
  refine TL.nil (Post.thnN ?_)
  refine T.seq ?_
  refine T.region ?_
  obtain ⟨r7, er7⟩ : ∃ r, r = (ident_Component_m 3) := ⟨_, rfl⟩
  refine R.callv (v := .tuple #[.int .u64 r7.1, .int .i64 r7.2]) rfl rfl rfl (by rw [er7]; exact ident_Component_c _ (3)) ?_
  refine R.mvE rfl (by conv => lhs; whnf) ?_
  refine R.ext rfl rfl rfl ?_
  refine R.ext rfl rfl rfl ?_
  refine R.asE rfl (by conv => lhs; whnf) ?_
  refine R.asE rfl (by conv => lhs; whnf) ?_
  refine TL.nil (Post.thnN ?_)
  refine T.seq ?_
  refine T.region ?_
  obtain ⟨r11, er11⟩ : ∃ r, r = (ident_Pair_m 4 5) := ⟨_, rfl⟩
  refine R.callv (v := .tuple #[.int .u64 r11.1, .int .i64 r11.2]) rfl rfl rfl (by rw [er11]; exact ident_Pair_c _ (4) (5)) ?_
  refine R.mvE rfl (by conv => lhs; whnf) ?_
  refine R.ext rfl rfl rfl ?_
  refine R.ext rfl rfl rfl ?_
  refine R.asE rfl (by conv => lhs; whnf) ?_
  refine R.asE rfl (by conv => lhs; whnf) ?_
  refine TL.nil (Post.thnN ?_)
  refine T.seq ?_
  refine T.region ?_
  refine R.mvE rfl (by conv => lhs; whnf) ?_
  refine R.bs rfl (run_buildSlice1 Try.underlying22 Try.sizeOf26 Try.zeroValue26 rfl rfl) ?_
  intro b15
  have w15 : OwnS (intE .u64) 26 H (.slice (some ⟨b15, 0, none⟩) 1 1) [r7.1] [(b15, .cells #[.int .u64 (r7.1)] 26)] := OwnS.lit (xs := [r7.1]) (cellsOf_cons (a := [.int .u64 (r7.1)]) rfl cellsOf_nil) (by show 1 ≤ maxLen; decide)
  refine R.mvE rfl (by conv => lhs; whnf) ?_
  refine R.mvE rfl (by conv => lhs; whnf) ?_
  refine R.bsN [.int .u64 (r7.1), .int .u64 (r11.1)] rfl Try.underlying22 Try.sizeOf26 Try.zeroValue26 rfl rfl rfl rfl rfl rfl ?_
  intro b18
  have w18 : OwnS (intE .u64) 26 H (.slice (some ⟨b18, 0, none⟩) 2 2) [r7.1, r11.1] [(b18, .cells #[.int .u64 (r7.1), .int .u64 (r11.1)] 26)] := OwnS.lit (xs := [r7.1, r11.1]) (cellsOf_cons (a := [.int .u64 (r7.1)]) rfl (cellsOf_cons (a := [.int .u64 (r11.1)]) rfl cellsOf_nil)) (by show 2 ≤ maxLen; decide)
  refine R.asE rfl (by conv => lhs; whnf) ?_
  refine R.asE rfl (by conv => lhs; whnf) ?_
  refine TL.nil (Post.thnN ?_)
  refine T.has (Has.cons (.tl .hd) (Has.cons .hd Has.nil)) ?_
  refine T.ret ?_
  have hM : windroselaw14_types_m = ([r7.1], [r7.1, r11.1]) := by subst er11; subst er7; rw [windroselaw14_types_m, LR.seq_go, LR.seq_go]
  exact fin2L (v := .slice (some ⟨b15, 0, none⟩) 1 1) (v' := .slice (some ⟨b18, 0, none⟩) 2 2) [[(b15, .cells #[.int .u64 (r7.1)] 26)], [(b18, .cells #[.int .u64 (r7.1), .int .u64 (r11.1)] 26)]] rfl rfl rfl (List.Sublist.refl _) ⟨.slice (some ⟨b15, 0, none⟩) 1 1, .slice (some ⟨b18, 0, none⟩) 2 2, [(b15, .cells #[.int .u64 (r7.1)] 26)], [(b18, .cells #[.int .u64 (r7.1), .int .u64 (r11.1)] 26)], by first | rw [hM] | rfl, rfl, by rw [hM]; exact w15, by rw [hM]; exact w18⟩
def windroselaw14_wakes_m  : Bool :=
  LR.seq (windroselaw14_types_m) (fun r12 => LR.seq (index_Put_m (([] : (List (Int × (List Int))))) 1 r12.1) (fun r18 => LR.seq (index_Put_m r18.1 2 r12.2) (fun r24 => LR.seq (ident_Pair_m 4 0) (fun r28 => LR.seq (index_Put_m r24.1 2 r12.1) (fun r34 => if r18.2 = 0 then (if r24.2 = 0 then (if r28.2 = 0 then (if r34.2 = 5 then (LR.seq (index_Keys_m r12.2) (fun r53 => if (r53.length : Int) = 5 then (LR.seq (index_Find_m r24.1 (r12.2.getD 0 (0 : Int))) (fun r62 => if r62 = [1, 2] then (LR.seq (index_Find_m r24.1 r28.1) (fun r69 => if r69 = [2] then (LR.seq (index_Type_m r24.1 2) (fun r75 => (decide (r75 = r12.2)))) else false)) else false)) else false)) else false) else false) else false) else false)))))
set_option maxHeartbeats 3200000 in
theorem windroselaw14_wakes_c (H : Heap) : Fv Try.prog (fnv 23) [] H (.bool windroselaw14_wakes_m) := by
  refine Fc.of_body (N := 79) Try.func23 rfl (by kernel_rfl) rfl rfl ?_
  intro w0
  refine T.seq ?_
  refine T.region ?_
  refine R.asE rfl (by conv => lhs; whnf) ?_
  refine TL.nil (Post.thnN ?_)
  refine T.seq ?_
  refine T.region ?_
  obtain ⟨r12, er12⟩ : ∃ r, r = windroselaw14_types_m := ⟨_, rfl⟩
  refine TL.call [] rfl rfl rfl (windroselaw14_types_c _ ) ?_
  intro v12 H12 L12 s12 q12
  rw [← er12] at q12
  obtain ⟨u12_0_0, u12_1_0, c12_0_0, c12_1_0, rfl, rfl, w12_0_0, w12_1_0⟩ := q12
  obtain ⟨A12_0_0, p12_0_0, rfl, m12_0_0, n12_0_0⟩ := OwnS.shape w12_0_0
  obtain ⟨A12_1_0, p12_1_0, rfl, m12_1_0, n12_1_0⟩ := OwnS.shape w12_1_0
  have tt12 : r12.2.length = 2 := by rw [er12]; rfl
  refine R.mvE rfl (by conv => lhs; whnf) ?_
  refine R.ext rfl rfl rfl ?_
  refine R.ext rfl rfl rfl ?_
  refine R.asE rfl (by conv => lhs; whnf) ?_
  refine R.asE rfl (by conv => lhs; whnf) ?_
  refine TL.nil (Post.thnN ?_)
  refine T.seq ?_
  refine T.region ?_
  refine R.bld (cs := [.slice none 0 0]) rfl (fun _ => by kernel_rfl) ?_
  refine R.mvE rfl (by conv => lhs; whnf) ?_
  refine TL.shut .hd ?_
  intro HF12_0_0_1 sF12_0_0_1 qF12_0_0_1
  have fF12_0_0_1 := OwnS.read w12_0_0 sF12_0_0_1 qF12_0_0_1
  obtain ⟨r18, er18⟩ : ∃ r, r = (index_Put_m (([] : (List (Int × (List Int))))) 1 r12.1) := ⟨_, rfl⟩
  refine TL.call [] rfl rfl rfl (index_Put_c _ (([] : (List (Int × (List Int))))) _ RdS.nil (1) _ r12.1 fF12_0_0_1 (by first | omega | assumption | (simp; done) | (simp; omega) | (simp at *; omega)) (by first | assumption | exact rows_le (by assumption) (by omega) | (intro r h; simp at h; done))) ?_
  intro v18 H18 L18 s18 q18
  rw [← er18] at q18
  obtain ⟨u18_0_0, c18_0_0, rfl, rfl, w18_0_0⟩ := q18
  obtain ⟨A18_0_0, p18_0_0, rfl, m18_0_0, n18_0_0⟩ := OwnS.shape w18_0_0
  have tpa18 := (put_len _ _ _ _ er18).1
  have tpb18 := (put_len _ _ _ _ er18).2 _ (by first | assumption | exact rows_nil)
  refine R.mvE rfl (by conv => lhs; whnf) ?_
  refine R.ext rfl rfl rfl ?_
  refine R.ext rfl rfl rfl ?_
  refine R.alloc Try.zeroValue46 rfl ?_
  intro b3
  refine R.stX (old := [.slice none 0 0]) (l := [.slice A18_0_0 r18.1.length p18_0_0]) (new := [.slice A18_0_0 r18.1.length p18_0_0]) (et := 46) Try.sizeOf46 rfl rfl rfl rfl rfl (by show 0 + 1 ≤ 1; decide) rfl (all_one rfl) .hd ?_
  refine R.asE rfl (by conv => lhs; whnf) ?_
  refine TL.shut (.tl .hd) ?_
  intro HF18_0_0_2 sF18_0_0_2 qF18_0_0_2
  have fF18_0_0_2 := OwnS.read w18_0_0 sF18_0_0_2 qF18_0_0_2
  refine TL.shut .hd ?_
  intro Hb3_3 sb3_3 qb3_3
  have hb3_3 : Hb3_3 b3 = some (.cells #[.slice A18_0_0 r18.1.length p18_0_0] 46) := shut1 qb3_3
  refine TL.nil (Post.thnN ?_)
  refine T.seq ?_
  refine T.region ?_
  refine R.ldXH (cs := [.slice A18_0_0 r18.1.length p18_0_0]) (l := [.slice A18_0_0 r18.1.length p18_0_0]) Try.isAgg46 Try.sizeOf46 rfl rfl hb3_3 rfl rfl ?_
  refine R.mvE rfl (by conv => lhs; whnf) ?_
  refine TL.shut .hd ?_
  intro HF12_1_0_4 sF12_1_0_4 qF12_1_0_4
  have fF12_1_0_4 := OwnS.read (OwnS.mono w12_1_0 (sF12_0_0_1.trans (s18.trans (sF18_0_0_2.trans sb3_3)))) sF12_1_0_4 qF12_1_0_4
  obtain ⟨r24, er24⟩ : ∃ r, r = (index_Put_m r18.1 2 r12.2) := ⟨_, rfl⟩
  refine TL.call [] rfl rfl rfl (index_Put_c _ r18.1 _ (fF18_0_0_2.mono (sb3_3.trans sF12_1_0_4)) (2) _ r12.2 fF12_1_0_4 (by first | omega | assumption | (simp; done) | (simp; omega) | (simp at *; omega)) (by first | assumption | exact rows_le (by assumption) (by omega) | (intro r h; simp at h; done))) ?_
  intro v24 H24 L24 s24 q24
  rw [← er24] at q24
  obtain ⟨u24_0_0, c24_0_0, rfl, rfl, w24_0_0⟩ := q24
  obtain ⟨A24_0_0, p24_0_0, rfl, m24_0_0, n24_0_0⟩ := OwnS.shape w24_0_0
  have tpa24 := (put_len _ _ _ _ er24).1
  have tpb24 := (put_len _ _ _ _ er24).2 _ (by first | assumption | exact rows_nil)
  refine R.mvE rfl (by conv => lhs; whnf) ?_
  refine R.ext rfl rfl rfl ?_
  refine R.ext rfl rfl rfl ?_
  refine R.alloc Try.zeroValue46 rfl ?_
  intro b5
  refine R.stX (old := [.slice none 0 0]) (l := [.slice A24_0_0 r24.1.length p24_0_0]) (new := [.slice A24_0_0 r24.1.length p24_0_0]) (et := 46) Try.sizeOf46 rfl rfl rfl rfl rfl (by show 0 + 1 ≤ 1; decide) rfl (all_one rfl) .hd ?_
  refine R.asE rfl (by conv => lhs; whnf) ?_
  refine TL.shut (.tl .hd) ?_
  intro HF24_0_0_5 sF24_0_0_5 qF24_0_0_5
  have fF24_0_0_5 := OwnS.read w24_0_0 sF24_0_0_5 qF24_0_0_5
  refine TL.shut .hd ?_
  intro Hb5_6 sb5_6 qb5_6
  have hb5_6 : Hb5_6 b5 = some (.cells #[.slice A24_0_0 r24.1.length p24_0_0] 46) := shut1 qb5_6
  refine TL.nil (Post.thnN ?_)
  refine T.seq ?_
  refine T.region ?_
  obtain ⟨r28, er28⟩ : ∃ r, r = (ident_Pair_m 4 0) := ⟨_, rfl⟩
  refine R.callv (v := .tuple #[.int .u64 r28.1, .int .i64 r28.2]) rfl rfl rfl (by rw [er28]; exact ident_Pair_c _ (4) (0)) ?_
  refine R.mvE rfl (by conv => lhs; whnf) ?_
  refine R.ext rfl rfl rfl ?_
  refine R.ext rfl rfl rfl ?_
  refine R.asE rfl (by conv => lhs; whnf) ?_
  refine R.asE rfl (by conv => lhs; whnf) ?_
  refine TL.nil (Post.thnN ?_)
  refine T.seq ?_
  refine T.region ?_
  refine R.ldXH (cs := [.slice A24_0_0 r24.1.length p24_0_0]) (l := [.slice A24_0_0 r24.1.length p24_0_0]) Try.isAgg46 Try.sizeOf46 rfl rfl hb5_6 rfl rfl ?_
  refine R.mvE rfl (by conv => lhs; whnf) ?_
  obtain ⟨r34, er34⟩ : ∃ r, r = (index_Put_m r24.1 2 r12.1) := ⟨_, rfl⟩
  refine TL.call [] rfl rfl rfl (index_Put_c _ r24.1 _ (fF24_0_0_5.mono sb5_6) (2) _ r12.1 (fF12_0_0_1.mono (s18.trans (sF18_0_0_2.trans (sb3_3.trans (sF12_1_0_4.trans (s24.trans (sF24_0_0_5.trans sb5_6))))))) (by first | omega | assumption | (simp; done) | (simp; omega) | (simp at *; omega)) (by first | assumption | exact rows_le (by assumption) (by omega) | (intro r h; simp at h; done))) ?_
  intro v34 H34 L34 s34 q34
  rw [← er34] at q34
  obtain ⟨u34_0_0, c34_0_0, rfl, rfl, w34_0_0⟩ := q34
  obtain ⟨A34_0_0, p34_0_0, rfl, m34_0_0, n34_0_0⟩ := OwnS.shape w34_0_0
  have tpa34 := (put_len _ _ _ _ er34).1
  have tpb34 := (put_len _ _ _ _ er34).2 _ (by first | assumption | exact rows_nil)
  refine R.mvE rfl (by conv => lhs; whnf) ?_
  refine R.ext rfl rfl rfl ?_
  refine R.ext rfl rfl rfl ?_
  refine R.alloc Try.zeroValue46 rfl ?_
  intro b9
  refine R.stX (old := [.slice none 0 0]) (l := [.slice A34_0_0 r34.1.length p34_0_0]) (new := [.slice A34_0_0 r34.1.length p34_0_0]) (et := 46) Try.sizeOf46 rfl rfl rfl rfl rfl (by show 0 + 1 ≤ 1; decide) rfl (all_one rfl) .hd ?_
  refine R.asE rfl (by conv => lhs; whnf) ?_
  refine TL.shut (.tl .hd) ?_
  intro HF34_0_0_7 sF34_0_0_7 qF34_0_0_7
  have fF34_0_0_7 := OwnS.read w34_0_0 sF34_0_0_7 qF34_0_0_7
  refine TL.shut .hd ?_
  intro Hb9_8 sb9_8 qb9_8
  have hb9_8 : Hb9_8 b9 = some (.cells #[.slice A34_0_0 r34.1.length p34_0_0] 46) := shut1 qb9_8
  refine TL.nil (Post.thnN ?_)
  refine T.seq ?_
  refine T.draw Try_mixed (by kernel_rfl) ?_
  refine Plan.v 0 [1, 2, 3, 4, 5, 6, 7, 8, 9, 10, 11, 12, 13, 14, 15, 16, 17, 18, 19, 20, 21, 22, 23, 24, 25, 26, 27, 28, 29, 30, 31, 32, 33, 34, 35, 36, 37, 38, 39, 40, 41, 42] (by kernel_rfl) (by kernel_rfl) (by kernel_rfl) (by kernel_rfl) rfl (fun _ _ h_ => R.mvE rfl (by conv => lhs; whnf) (TL.nil h_)) ?_
  refine Plan.v 1 [2, 3, 4, 5, 6, 7, 8, 9, 10, 11, 12, 13, 14, 15, 16, 17, 18, 19, 20, 21, 22, 23, 24, 25, 26, 27, 28, 29, 30, 31, 32, 33, 34, 35, 36, 37, 38, 39, 40, 41, 42] (by kernel_rfl) (by kernel_rfl) (by kernel_rfl) (by kernel_rfl) rfl (fun _ _ h_ => R.eql rfl rfl rfl (TL.nil h_)) ?_
  refine Plan.v 2 [3, 4, 5, 6, 7, 8, 9, 10, 11, 12, 13, 14, 15, 16, 17, 18, 19, 20, 21, 22, 23, 24, 25, 26, 27, 28, 29, 30, 31, 32, 33, 34, 35, 36, 37, 38, 39, 40, 41, 42] (by kernel_rfl) (by kernel_rfl) (by kernel_rfl) (by kernel_rfl) rfl (fun _ _ h_ => R.mvE rfl (by conv => lhs; whnf) (TL.nil h_)) ?_
  refine Plan.gsplitD 39 rfl (fun g39 => ?_) (fun g39 => ?_)
  · refine Plan.v 3 [4, 5, 6, 7, 8, 9, 10, 11, 12, 13, 14, 15, 16, 17, 18, 19, 20, 21, 22, 23, 24, 25, 26, 27, 28, 29, 30, 31, 32, 33, 34, 35, 36, 37, 38, 39, 40, 41, 42] (by kernel_rfl) (by kernel_rfl) (by kernel_rfl) (by kernel_rfl) rfl (fun _ _ h_ => R.mvE rfl (by conv => lhs; whnf) (TL.nil h_)) ?_
    refine Plan.v 4 [5, 6, 7, 8, 9, 10, 11, 12, 13, 14, 15, 16, 17, 18, 19, 20, 21, 22, 23, 24, 25, 26, 27, 28, 29, 30, 31, 32, 33, 34, 35, 36, 37, 38, 39, 40, 41, 42] (by kernel_rfl) (by kernel_rfl) (by kernel_rfl) (by kernel_rfl) rfl (fun _ _ h_ => R.eql rfl rfl rfl (TL.nil h_)) ?_
    refine Plan.v 5 [6, 7, 8, 9, 10, 11, 12, 13, 14, 15, 16, 17, 18, 19, 20, 21, 22, 23, 24, 25, 26, 27, 28, 29, 30, 31, 32, 33, 34, 35, 36, 37, 38, 39, 40, 41, 42] (by kernel_rfl) (by kernel_rfl) (by kernel_rfl) (by kernel_rfl) rfl (fun _ _ h_ => R.pkTE rfl rfl (by conv => lhs; whnf) (TL.nil h_)) ?_
    refine Plan.v 6 [7, 8, 9, 10, 11, 12, 13, 14, 15, 16, 17, 18, 19, 20, 21, 22, 23, 24, 25, 26, 27, 28, 29, 30, 31, 32, 33, 34, 35, 36, 37, 38, 39, 40, 41, 42] (by kernel_rfl) (by kernel_rfl) (by kernel_rfl) (by kernel_rfl) rfl (fun _ _ h_ => R.mvE rfl (by conv => lhs; whnf) (TL.nil h_)) ?_
    refine Plan.gsplitD 43 rfl (fun g43 => ?_) (fun g43 => ?_)
    · refine Plan.v 7 [8, 9, 10, 11, 12, 13, 14, 15, 16, 17, 18, 19, 20, 21, 22, 23, 24, 25, 26, 27, 28, 29, 30, 31, 32, 33, 34, 35, 36, 37, 38, 39, 40, 41, 42] (by kernel_rfl) (by kernel_rfl) (by kernel_rfl) (by kernel_rfl) rfl (fun _ _ h_ => R.mvE rfl (by conv => lhs; whnf) (TL.nil h_)) ?_
      refine Plan.v 8 [9, 10, 11, 12, 13, 14, 15, 16, 17, 18, 19, 20, 21, 22, 23, 24, 25, 26, 27, 28, 29, 30, 31, 32, 33, 34, 35, 36, 37, 38, 39, 40, 41, 42] (by kernel_rfl) (by kernel_rfl) (by kernel_rfl) (by kernel_rfl) rfl (fun _ _ h_ => R.eql rfl rfl rfl (TL.nil h_)) ?_
      refine Plan.v 9 [10, 11, 12, 13, 14, 15, 16, 17, 18, 19, 20, 21, 22, 23, 24, 25, 26, 27, 28, 29, 30, 31, 32, 33, 34, 35, 36, 37, 38, 39, 40, 41, 42] (by kernel_rfl) (by kernel_rfl) (by kernel_rfl) (by kernel_rfl) rfl (fun _ _ h_ => R.pkTE rfl rfl (by conv => lhs; whnf) (TL.nil h_)) ?_
      refine Plan.v 10 [11, 12, 13, 14, 15, 16, 17, 18, 19, 20, 21, 22, 23, 24, 25, 26, 27, 28, 29, 30, 31, 32, 33, 34, 35, 36, 37, 38, 39, 40, 41, 42] (by kernel_rfl) (by kernel_rfl) (by kernel_rfl) (by kernel_rfl) rfl (fun _ _ h_ => R.mvE rfl (by conv => lhs; whnf) (TL.nil h_)) ?_
      refine Plan.gsplitD 47 rfl (fun g47 => ?_) (fun g47 => ?_)
      · refine Plan.v 11 [12, 13, 14, 15, 16, 17, 18, 19, 20, 21, 22, 23, 24, 25, 26, 27, 28, 29, 30, 31, 32, 33, 34, 35, 36, 37, 38, 39, 40, 41, 42] (by kernel_rfl) (by kernel_rfl) (by kernel_rfl) (by kernel_rfl) rfl (fun _ _ h_ => R.mvE rfl (by conv => lhs; whnf) (TL.nil h_)) ?_
        refine Plan.v 12 [13, 14, 15, 16, 17, 18, 19, 20, 21, 22, 23, 24, 25, 26, 27, 28, 29, 30, 31, 32, 33, 34, 35, 36, 37, 38, 39, 40, 41, 42] (by kernel_rfl) (by kernel_rfl) (by kernel_rfl) (by kernel_rfl) rfl (fun _ _ h_ => R.eql rfl rfl rfl (TL.nil h_)) ?_
        refine Plan.v 13 [14, 15, 16, 17, 18, 19, 20, 21, 22, 23, 24, 25, 26, 27, 28, 29, 30, 31, 32, 33, 34, 35, 36, 37, 38, 39, 40, 41, 42] (by kernel_rfl) (by kernel_rfl) (by kernel_rfl) (by kernel_rfl) rfl (fun _ _ h_ => R.pkTE rfl rfl (by conv => lhs; whnf) (TL.nil h_)) ?_
        refine Plan.v 14 [15, 16, 17, 18, 19, 20, 21, 22, 23, 24, 25, 26, 27, 28, 29, 30, 31, 32, 33, 34, 35, 36, 37, 38, 39, 40, 41, 42] (by kernel_rfl) (by kernel_rfl) (by kernel_rfl) (by kernel_rfl) rfl (fun _ _ h_ => R.mvE rfl (by conv => lhs; whnf) (TL.nil h_)) ?_
        refine Plan.gsplitD 51 rfl (fun g51 => ?_) (fun g51 => ?_)
        · refine Plan.v 15 [16, 17, 18, 19, 20, 21, 22, 23, 24, 25, 26, 27, 28, 29, 30, 31, 32, 33, 34, 35, 36, 37, 38, 39, 40, 41, 42] (by kernel_rfl) (by kernel_rfl) (by kernel_rfl) (by kernel_rfl) rfl (fun _ _ h_ => R.mvE rfl (by conv => lhs; whnf) (TL.nil h_)) ?_
          refine Plan.s1 16 [17, 18, 19, 20, 21, 22, 23, 24, 25, 26, 27, 28, 29, 30, 31, 32, 33, 34, 35, 36, 37, 38, 39, 40, 41, 42] (by kernel_rfl) (by kernel_rfl) rfl ?_
          obtain ⟨r53, er53⟩ : ∃ r, r = (index_Keys_m r12.2) := ⟨_, rfl⟩
          refine TL.call [] rfl rfl rfl (index_Keys_c _ _ r12.2 (fF12_1_0_4.mono (s24.trans (sF24_0_0_5.trans (sb5_6.trans (s34.trans (sF34_0_0_7.trans sb9_8))))))) ?_
          intro v53 H53 L53 s53 q53
          rw [← er53] at q53
          obtain ⟨u53_0_0, c53_0_0, rfl, rfl, w53_0_0⟩ := q53
          obtain ⟨A53_0_0, p53_0_0, rfl, m53_0_0, n53_0_0⟩ := OwnS.shape w53_0_0
          have tK53 := Keys_len _ _ er53
          refine TL.nil (Plan.e1 (s53) ?_)
          refine Plan.v 17 [18, 19, 20, 21, 22, 23, 24, 25, 26, 27, 28, 29, 30, 31, 32, 33, 34, 35, 36, 37, 38, 39, 40, 41, 42] (by kernel_rfl) (by kernel_rfl) (by kernel_rfl) (by kernel_rfl) rfl (fun _ _ h_ => R.len Try.underlying22 rfl rfl (TL.nil h_)) ?_
          refine Plan.v 18 [19, 20, 21, 22, 23, 24, 25, 26, 27, 28, 29, 30, 31, 32, 33, 34, 35, 36, 37, 38, 39, 40, 41, 42] (by kernel_rfl) (by kernel_rfl) (by kernel_rfl) (by kernel_rfl) rfl (fun _ _ h_ => R.eql rfl rfl rfl (TL.nil h_)) ?_
          refine Plan.v 19 [20, 21, 22, 23, 24, 25, 26, 27, 28, 29, 30, 31, 32, 33, 34, 35, 36, 37, 38, 39, 40, 41, 42] (by kernel_rfl) (by kernel_rfl) (by kernel_rfl) (by kernel_rfl) rfl (fun _ _ h_ => R.pkTE rfl rfl (by conv => lhs; whnf) (TL.nil h_)) ?_
          refine Plan.v 20 [21, 22, 23, 24, 25, 26, 27, 28, 29, 30, 31, 32, 33, 34, 35, 36, 37, 38, 39, 40, 41, 42] (by kernel_rfl) (by kernel_rfl) (by kernel_rfl) (by kernel_rfl) rfl (fun _ _ h_ => R.mvE rfl (by conv => lhs; whnf) (TL.nil h_)) ?_
          refine Plan.gsplitD 57 rfl (fun g57 => ?_) (fun g57 => ?_)
          · refine Plan.v 21 [22, 23, 24, 25, 26, 27, 28, 29, 30, 31, 32, 33, 34, 35, 36, 37, 38, 39, 40, 41, 42] (by kernel_rfl) (by kernel_rfl) (by kernel_rfl) (by kernel_rfl) rfl (fun _ _ h_ => R.ldXH (cs := [.slice A24_0_0 r24.1.length p24_0_0]) (l := [.slice A24_0_0 r24.1.length p24_0_0]) Try.isAgg46 Try.sizeOf46 rfl rfl ((s34.trans (sF34_0_0_7.trans (sb9_8.trans s53))) _ _ hb5_6) rfl rfl (TL.nil h_)) ?_
            refine Plan.v 22 [23, 24, 25, 26, 27, 28, 29, 30, 31, 32, 33, 34, 35, 36, 37, 38, 39, 40, 41, 42] (by kernel_rfl) (by kernel_rfl) (by kernel_rfl) (by kernel_rfl) rfl (fun _ _ h_ => R.mvE rfl (by conv => lhs; whnf) (TL.nil h_)) ?_
            have hl60 : 0 < r12.2.length := by first | omega | (simp; done) | (simp; omega) | (simp at *; omega)
            obtain ⟨y60, e60, h60⟩ : ∃ y, y = (r12.2.getD 0 (0 : Int)) ∧ r12.2[0]? = some y := ⟨_, rfl, getD_get (by first | exact hl60 | simpa using hl60 | (simp only [List.length_set]; omega) | omega | (rw [(sortI_perm _).length_eq]; exact hl60))⟩
            obtain ⟨b60, o60, i60, k60⟩ := RdS.elem (fF12_1_0_4.mono (s24.trans (sF24_0_0_5.trans (sb5_6.trans (s34.trans (sF34_0_0_7.trans (sb9_8.trans s53))))))) h60
            obtain ⟨l60, g60, k60⟩ := k60
            obtain rfl : l60 = [.int .u64 y60] := g60
            refine Plan.v 23 [24, 25, 26, 27, 28, 29, 30, 31, 32, 33, 34, 35, 36, 37, 38, 39, 40, 41, 42] (by kernel_rfl) (by kernel_rfl) (by kernel_rfl) (by kernel_rfl) rfl (fun _ _ h_ => R.ixp Try.underlying22 Try.sizeOf26 rfl rfl rfl (by first | omega | (simp; done) | (simp; omega) | (simp at *; omega)) i60 (TL.nil h_)) ?_
            refine Plan.v 24 [25, 26, 27, 28, 29, 30, 31, 32, 33, 34, 35, 36, 37, 38, 39, 40, 41, 42] (by kernel_rfl) (by kernel_rfl) (by kernel_rfl) (by kernel_rfl) rfl (fun _ _ h_ => R.ldC Try.isAgg26 rfl rfl (k60 0 _ rfl) (TL.nil h_)) ?_
            refine Plan.s2 25 26 [26, 27, 28, 29, 30, 31, 32, 33, 34, 35, 36, 37, 38, 39, 40, 41, 42] [25, 27, 28, 29, 30, 31, 32, 33, 34, 35, 36, 37, 38, 39, 40, 41, 42] (by kernel_rfl) (by kernel_rfl) (by kernel_rfl) rfl rfl ?_ ?_
            · obtain ⟨r62, er62⟩ : ∃ r, r = (index_Find_m r24.1 y60) := ⟨_, rfl⟩
              refine TL.call [] rfl rfl rfl (index_Find_c _ r24.1 _ (fF24_0_0_5.mono (sb5_6.trans (s34.trans (sF34_0_0_7.trans (sb9_8.trans s53))))) (y60) (by first | omega | assumption | (simp; done) | (simp; omega) | (simp at *; omega)) (by first | assumption | exact rows_le (by assumption) (by omega) | (intro r h; simp at h; done))) ?_
              intro v62 H62 L62 s62 q62
              rw [← er62] at q62
              obtain ⟨u62_0_0, c62_0_0, rfl, rfl, w62_0_0⟩ := q62
              obtain ⟨A62_0_0, p62_0_0, rfl, m62_0_0, n62_0_0⟩ := OwnS.shape w62_0_0
              refine TL.nil (Plan.e1 (s62) ?_)
              refine Plan.s1 26 [27, 28, 29, 30, 31, 32, 33, 34, 35, 36, 37, 38, 39, 40, 41, 42] (by kernel_rfl) (by kernel_rfl) rfl ?_
              refine R.bsN [.int .i64 1, .int .i64 2] rfl Try.underlying37 Try.sizeOf3 Try.zeroValue3 rfl rfl rfl rfl rfl rfl ?_
              intro b63
              have w63 : OwnS (intE .i64) 3 H62 (.slice (some ⟨b63, 0, none⟩) 2 2) [1, 2] [(b63, .cells #[.int .i64 1, .int .i64 2] 3)] := OwnS.lit (xs := [1, 2]) (cellsOf_cons (a := [.int .i64 1]) rfl (cellsOf_cons (a := [.int .i64 2]) rfl cellsOf_nil)) (by show 2 ≤ maxLen; decide)
              refine TL.nil (Plan.e1 (HLe.refl _) ?_)
              refine Plan.s1 27 [28, 29, 30, 31, 32, 33, 34, 35, 36, 37, 38, 39, 40, 41, 42] (by kernel_rfl) (by kernel_rfl) rfl ?_
              refine TL.shut (.tl .hd) ?_
              intro HF62_0_0_11 sF62_0_0_11 qF62_0_0_11
              have fF62_0_0_11 := OwnS.read w62_0_0 sF62_0_0_11 qF62_0_0_11
              refine TL.shut .hd ?_
              intro HF63_12 sF63_12 qF63_12
              have fF63_12 := OwnS.read (OwnS.mono w63 sF62_0_0_11) sF63_12 qF63_12
              refine R.callv rfl rfl rfl (slices_Equal_int_d _ _ r62 (fF62_0_0_11.mono sF63_12) _ ([1, 2]) fF63_12) ?_
              refine TL.nil (Plan.e1 ((sF62_0_0_11.trans sF63_12)) ?_)
              refine Plan.v 28 [29, 30, 31, 32, 33, 34, 35, 36, 37, 38, 39, 40, 41, 42] (by kernel_rfl) (by kernel_rfl) (by kernel_rfl) (by kernel_rfl) rfl (fun _ _ h_ => R.pkTE rfl rfl (by conv => lhs; whnf) (TL.nil h_)) ?_
              refine Plan.v 29 [30, 31, 32, 33, 34, 35, 36, 37, 38, 39, 40, 41, 42] (by kernel_rfl) (by kernel_rfl) (by kernel_rfl) (by kernel_rfl) rfl (fun _ _ h_ => R.mvE rfl (by conv => lhs; whnf) (TL.nil h_)) ?_
              refine Plan.gsplitD 66 rfl (fun g66 => ?_) (fun g66 => ?_)
              · refine Plan.v 30 [31, 32, 33, 34, 35, 36, 37, 38, 39, 40, 41, 42] (by kernel_rfl) (by kernel_rfl) (by kernel_rfl) (by kernel_rfl) rfl (fun _ _ h_ => R.ldXH (cs := [.slice A24_0_0 r24.1.length p24_0_0]) (l := [.slice A24_0_0 r24.1.length p24_0_0]) Try.isAgg46 Try.sizeOf46 rfl rfl ((s34.trans (sF34_0_0_7.trans (sb9_8.trans (s53.trans (s62.trans (sF62_0_0_11.trans sF63_12)))))) _ _ hb5_6) rfl rfl (TL.nil h_)) ?_
                refine Plan.v 31 [32, 33, 34, 35, 36, 37, 38, 39, 40, 41, 42] (by kernel_rfl) (by kernel_rfl) (by kernel_rfl) (by kernel_rfl) rfl (fun _ _ h_ => R.mvE rfl (by conv => lhs; whnf) (TL.nil h_)) ?_
                refine Plan.s2 32 33 [33, 34, 35, 36, 37, 38, 39, 40, 41, 42] [32, 34, 35, 36, 37, 38, 39, 40, 41, 42] (by kernel_rfl) (by kernel_rfl) (by kernel_rfl) rfl rfl ?_ ?_
                · obtain ⟨r69, er69⟩ : ∃ r, r = (index_Find_m r24.1 r28.1) := ⟨_, rfl⟩
                  refine TL.call [] rfl rfl rfl (index_Find_c _ r24.1 _ (fF24_0_0_5.mono (sb5_6.trans (s34.trans (sF34_0_0_7.trans (sb9_8.trans (s53.trans (s62.trans (sF62_0_0_11.trans sF63_12)))))))) (r28.1) (by first | omega | assumption | (simp; done) | (simp; omega) | (simp at *; omega)) (by first | assumption | exact rows_le (by assumption) (by omega) | (intro r h; simp at h; done))) ?_
                  intro v69 H69 L69 s69 q69
                  rw [← er69] at q69
                  obtain ⟨u69_0_0, c69_0_0, rfl, rfl, w69_0_0⟩ := q69
                  obtain ⟨A69_0_0, p69_0_0, rfl, m69_0_0, n69_0_0⟩ := OwnS.shape w69_0_0
                  refine TL.nil (Plan.e1 (s69) ?_)
                  refine Plan.s1 33 [34, 35, 36, 37, 38, 39, 40, 41, 42] (by kernel_rfl) (by kernel_rfl) rfl ?_
                  refine R.bs rfl (run_buildSlice1 Try.underlying37 Try.sizeOf3 Try.zeroValue3 rfl rfl) ?_
                  intro b70
                  have w70 : OwnS (intE .i64) 3 H69 (.slice (some ⟨b70, 0, none⟩) 1 1) [2] [(b70, .cells #[.int .i64 2] 3)] := OwnS.lit (xs := [2]) (cellsOf_cons (a := [.int .i64 2]) rfl cellsOf_nil) (by show 1 ≤ maxLen; decide)
                  refine TL.nil (Plan.e1 (HLe.refl _) ?_)
                  refine Plan.s1 34 [35, 36, 37, 38, 39, 40, 41, 42] (by kernel_rfl) (by kernel_rfl) rfl ?_
                  refine TL.shut (.tl .hd) ?_
                  intro HF69_0_0_15 sF69_0_0_15 qF69_0_0_15
                  have fF69_0_0_15 := OwnS.read w69_0_0 sF69_0_0_15 qF69_0_0_15
                  refine TL.shut .hd ?_
                  intro HF70_16 sF70_16 qF70_16
                  have fF70_16 := OwnS.read (OwnS.mono w70 sF69_0_0_15) sF70_16 qF70_16
                  refine R.callv rfl rfl rfl (slices_Equal_int_d _ _ r69 (fF69_0_0_15.mono sF70_16) _ ([2]) fF70_16) ?_
                  refine TL.nil (Plan.e1 ((sF69_0_0_15.trans sF70_16)) ?_)
                  refine Plan.v 35 [36, 37, 38, 39, 40, 41, 42] (by kernel_rfl) (by kernel_rfl) (by kernel_rfl) (by kernel_rfl) rfl (fun _ _ h_ => R.pkTE rfl rfl (by conv => lhs; whnf) (TL.nil h_)) ?_
                  refine Plan.v 36 [37, 38, 39, 40, 41, 42] (by kernel_rfl) (by kernel_rfl) (by kernel_rfl) (by kernel_rfl) rfl (fun _ _ h_ => R.mvE rfl (by conv => lhs; whnf) (TL.nil h_)) ?_
                  refine Plan.gsplitD 73 rfl (fun g73 => ?_) (fun g73 => ?_)
                  · refine Plan.v 37 [38, 39, 40, 41, 42] (by kernel_rfl) (by kernel_rfl) (by kernel_rfl) (by kernel_rfl) rfl (fun _ _ h_ => R.ldXH (cs := [.slice A24_0_0 r24.1.length p24_0_0]) (l := [.slice A24_0_0 r24.1.length p24_0_0]) Try.isAgg46 Try.sizeOf46 rfl rfl ((s34.trans (sF34_0_0_7.trans (sb9_8.trans (s53.trans (s62.trans (sF62_0_0_11.trans (sF63_12.trans (s69.trans (sF69_0_0_15.trans sF70_16))))))))) _ _ hb5_6) rfl rfl (TL.nil h_)) ?_
                    refine Plan.v 39 [38, 40, 41, 42] (by kernel_rfl) (by kernel_rfl) (by kernel_rfl) (by kernel_rfl) rfl (fun _ _ h_ => R.mvE rfl (by conv => lhs; whnf) (TL.nil h_)) ?_
                    refine Plan.s1 38 [40, 41, 42] (by kernel_rfl) (by kernel_rfl) rfl ?_
                    obtain ⟨r75, er75⟩ : ∃ r, r = (index_Type_m r24.1 2) := ⟨_, rfl⟩
                    refine TL.call [] rfl rfl rfl (index_Type_c _ r24.1 _ (fF24_0_0_5.mono (sb5_6.trans (s34.trans (sF34_0_0_7.trans (sb9_8.trans (s53.trans (s62.trans (sF62_0_0_11.trans (sF63_12.trans (s69.trans (sF69_0_0_15.trans sF70_16))))))))))) (2) (by first | omega | assumption | (simp; done) | (simp; omega) | (simp at *; omega)) (by first | assumption | exact rows_le (by assumption) (by omega) | (intro r h; simp at h; done))) ?_
                    intro v75 H75 L75 s75 q75
                    rw [← er75] at q75
                    obtain ⟨u75_0_0, c75_0_0, rfl, rfl, w75_0_0⟩ := q75
                    obtain ⟨A75_0_0, p75_0_0, rfl, m75_0_0, n75_0_0⟩ := OwnS.shape w75_0_0
                    refine TL.nil (Plan.e1 (s75) ?_)
                    refine Plan.s1 40 [41, 42] (by kernel_rfl) (by kernel_rfl) rfl ?_
                    refine TL.shut .hd ?_
                    intro HF75_0_0_18 sF75_0_0_18 qF75_0_0_18
                    have fF75_0_0_18 := OwnS.read w75_0_0 sF75_0_0_18 qF75_0_0_18
                    refine R.callv rfl rfl rfl (slices_Equal_Id_d _ _ r75 fF75_0_0_18 _ r12.2 (fF12_1_0_4.mono (s24.trans (sF24_0_0_5.trans (sb5_6.trans (s34.trans (sF34_0_0_7.trans (sb9_8.trans (s53.trans (s62.trans (sF62_0_0_11.trans (sF63_12.trans (s69.trans (sF69_0_0_15.trans (sF70_16.trans (s75.trans sF75_0_0_18)))))))))))))))) ?_
                    refine TL.nil (Plan.e1 (sF75_0_0_18) ?_)
                    refine Plan.v 41 [42] (by kernel_rfl) (by kernel_rfl) (by kernel_rfl) (by kernel_rfl) rfl (fun _ _ h_ => R.pkTE rfl rfl (by conv => lhs; whnf) (TL.nil h_)) ?_
                    refine Plan.v 42 [] (by kernel_rfl) (by kernel_rfl) (by kernel_rfl) (by kernel_rfl) rfl (fun _ _ h_ => R.asE rfl (by conv => lhs; whnf) (TL.nil h_)) ?_
                    refine Plan.done (Post.thnN ?_)
                    refine T.has Has.nil ?_
                    refine T.ret ?_
                    have hM : windroselaw14_wakes_m = (decide (r75 = r12.2)) := by subst er75; subst er69; subst er62; subst e60; subst er53; subst er34; subst er28; subst er24; subst er18; subst er12; rw [windroselaw14_wakes_m, LR.seq_go, LR.seq_go, LR.seq_go, LR.seq_go, LR.seq_go, if_pos g39, if_pos g43, if_pos g47, if_pos g51, LR.seq_go, if_pos g57, LR.seq_go, if_pos g66, LR.seq_go, if_pos g73, LR.seq_go]
                    exact fin1L (v := .bool (decide (r75 = r12.2))) [] rfl rfl (List.Sublist.refl _) ⟨rfl, by first | rw [hM] | rfl⟩
                  refine Plan.v 37 [38, 39, 40, 41, 42] (by kernel_rfl) (by kernel_rfl) (by kernel_rfl) (by kernel_rfl) rfl (fun _ _ h_ => TL.off rfl rfl rfl (TL.nil h_)) ?_
                  refine Plan.v 38 [39, 40, 41, 42] (by kernel_rfl) (by kernel_rfl) (by kernel_rfl) (by kernel_rfl) rfl (fun _ _ h_ => TL.off rfl rfl rfl (TL.nil h_)) ?_
                  refine Plan.v 39 [40, 41, 42] (by kernel_rfl) (by kernel_rfl) (by kernel_rfl) (by kernel_rfl) rfl (fun _ _ h_ => TL.off rfl rfl rfl (TL.nil h_)) ?_
                  refine Plan.v 40 [41, 42] (by kernel_rfl) (by kernel_rfl) (by kernel_rfl) (by kernel_rfl) rfl (fun _ _ h_ => TL.off rfl rfl rfl (TL.nil h_)) ?_
                  refine Plan.v 41 [42] (by kernel_rfl) (by kernel_rfl) (by kernel_rfl) (by kernel_rfl) rfl (fun _ _ h_ => R.pkFE rfl rfl (by conv => lhs; whnf) (TL.nil h_)) ?_
                  refine Plan.v 42 [] (by kernel_rfl) (by kernel_rfl) (by kernel_rfl) (by kernel_rfl) rfl (fun _ _ h_ => R.asE rfl (by conv => lhs; whnf) (TL.nil h_)) ?_
                  refine Plan.done (Post.thnN ?_)
                  refine T.has Has.nil ?_
                  refine T.ret ?_
                  have hM : windroselaw14_wakes_m = false := by subst er69; subst er62; subst e60; subst er53; subst er34; subst er28; subst er24; subst er18; subst er12; rw [windroselaw14_wakes_m, LR.seq_go, LR.seq_go, LR.seq_go, LR.seq_go, LR.seq_go, if_pos g39, if_pos g43, if_pos g47, if_pos g51, LR.seq_go, if_pos g57, LR.seq_go, if_pos g66, LR.seq_go, if_neg g73]
                  exact fin1L (v := .bool false) [] rfl rfl (List.Sublist.refl _) ⟨rfl, by first | rw [hM] | rfl⟩
                refine R.bs rfl (run_buildSlice1 Try.underlying37 Try.sizeOf3 Try.zeroValue3 rfl rfl) ?_
                intro b70
                have w70 : OwnS (intE .i64) 3 HF63_12 (.slice (some ⟨b70, 0, none⟩) 1 1) [2] [(b70, .cells #[.int .i64 2] 3)] := OwnS.lit (xs := [2]) (cellsOf_cons (a := [.int .i64 2]) rfl cellsOf_nil) (by show 1 ≤ maxLen; decide)
                refine TL.nil (Plan.e1 (HLe.refl _) ?_)
                refine Plan.s1 32 [34, 35, 36, 37, 38, 39, 40, 41, 42] (by kernel_rfl) (by kernel_rfl) rfl ?_
                obtain ⟨r69, er69⟩ : ∃ r, r = (index_Find_m r24.1 r28.1) := ⟨_, rfl⟩
                refine TL.call [] rfl rfl rfl (index_Find_c _ r24.1 _ (fF24_0_0_5.mono (sb5_6.trans (s34.trans (sF34_0_0_7.trans (sb9_8.trans (s53.trans (s62.trans (sF62_0_0_11.trans sF63_12)))))))) (r28.1) (by first | omega | assumption | (simp; done) | (simp; omega) | (simp at *; omega)) (by first | assumption | exact rows_le (by assumption) (by omega) | (intro r h; simp at h; done))) ?_
                intro v69 H69 L69 s69 q69
                rw [← er69] at q69
                obtain ⟨u69_0_0, c69_0_0, rfl, rfl, w69_0_0⟩ := q69
                obtain ⟨A69_0_0, p69_0_0, rfl, m69_0_0, n69_0_0⟩ := OwnS.shape w69_0_0
                refine TL.nil (Plan.e1 (s69) ?_)
                refine Plan.s1 34 [35, 36, 37, 38, 39, 40, 41, 42] (by kernel_rfl) (by kernel_rfl) rfl ?_
                refine TL.shut .hd ?_
                intro HF69_0_0_21 sF69_0_0_21 qF69_0_0_21
                have fF69_0_0_21 := OwnS.read w69_0_0 sF69_0_0_21 qF69_0_0_21
                refine TL.shut .hd ?_
                intro HF70_22 sF70_22 qF70_22
                have fF70_22 := OwnS.read (OwnS.mono w70 (s69.trans sF69_0_0_21)) sF70_22 qF70_22
                refine R.callv rfl rfl rfl (slices_Equal_int_d _ _ r69 (fF69_0_0_21.mono sF70_22) _ ([2]) fF70_22) ?_
                refine TL.nil (Plan.e1 ((sF69_0_0_21.trans sF70_22)) ?_)
                refine Plan.v 35 [36, 37, 38, 39, 40, 41, 42] (by kernel_rfl) (by kernel_rfl) (by kernel_rfl) (by kernel_rfl) rfl (fun _ _ h_ => R.pkTE rfl rfl (by conv => lhs; whnf) (TL.nil h_)) ?_
                refine Plan.v 36 [37, 38, 39, 40, 41, 42] (by kernel_rfl) (by kernel_rfl) (by kernel_rfl) (by kernel_rfl) rfl (fun _ _ h_ => R.mvE rfl (by conv => lhs; whnf) (TL.nil h_)) ?_
                refine Plan.gsplitD 73 rfl (fun g73 => ?_) (fun g73 => ?_)
                · refine Plan.v 37 [38, 39, 40, 41, 42] (by kernel_rfl) (by kernel_rfl) (by kernel_rfl) (by kernel_rfl) rfl (fun _ _ h_ => R.ldXH (cs := [.slice A24_0_0 r24.1.length p24_0_0]) (l := [.slice A24_0_0 r24.1.length p24_0_0]) Try.isAgg46 Try.sizeOf46 rfl rfl ((s34.trans (sF34_0_0_7.trans (sb9_8.trans (s53.trans (s62.trans (sF62_0_0_11.trans (sF63_12.trans (s69.trans (sF69_0_0_21.trans sF70_22))))))))) _ _ hb5_6) rfl rfl (TL.nil h_)) ?_
                  refine Plan.v 39 [38, 40, 41, 42] (by kernel_rfl) (by kernel_rfl) (by kernel_rfl) (by kernel_rfl) rfl (fun _ _ h_ => R.mvE rfl (by conv => lhs; whnf) (TL.nil h_)) ?_
                  refine Plan.s1 38 [40, 41, 42] (by kernel_rfl) (by kernel_rfl) rfl ?_
                  obtain ⟨r75, er75⟩ : ∃ r, r = (index_Type_m r24.1 2) := ⟨_, rfl⟩
                  refine TL.call [] rfl rfl rfl (index_Type_c _ r24.1 _ (fF24_0_0_5.mono (sb5_6.trans (s34.trans (sF34_0_0_7.trans (sb9_8.trans (s53.trans (s62.trans (sF62_0_0_11.trans (sF63_12.trans (s69.trans (sF69_0_0_21.trans sF70_22))))))))))) (2) (by first | omega | assumption | (simp; done) | (simp; omega) | (simp at *; omega)) (by first | assumption | exact rows_le (by assumption) (by omega) | (intro r h; simp at h; done))) ?_
                  intro v75 H75 L75 s75 q75
                  rw [← er75] at q75
                  obtain ⟨u75_0_0, c75_0_0, rfl, rfl, w75_0_0⟩ := q75
                  obtain ⟨A75_0_0, p75_0_0, rfl, m75_0_0, n75_0_0⟩ := OwnS.shape w75_0_0
                  refine TL.nil (Plan.e1 (s75) ?_)
                  refine Plan.s1 40 [41, 42] (by kernel_rfl) (by kernel_rfl) rfl ?_
                  refine TL.shut .hd ?_
                  intro HF75_0_0_24 sF75_0_0_24 qF75_0_0_24
                  have fF75_0_0_24 := OwnS.read w75_0_0 sF75_0_0_24 qF75_0_0_24
                  refine R.callv rfl rfl rfl (slices_Equal_Id_d _ _ r75 fF75_0_0_24 _ r12.2 (fF12_1_0_4.mono (s24.trans (sF24_0_0_5.trans (sb5_6.trans (s34.trans (sF34_0_0_7.trans (sb9_8.trans (s53.trans (s62.trans (sF62_0_0_11.trans (sF63_12.trans (s69.trans (sF69_0_0_21.trans (sF70_22.trans (s75.trans sF75_0_0_24)))))))))))))))) ?_
                  refine TL.nil (Plan.e1 (sF75_0_0_24) ?_)
                  refine Plan.v 41 [42] (by kernel_rfl) (by kernel_rfl) (by kernel_rfl) (by kernel_rfl) rfl (fun _ _ h_ => R.pkTE rfl rfl (by conv => lhs; whnf) (TL.nil h_)) ?_
                  refine Plan.v 42 [] (by kernel_rfl) (by kernel_rfl) (by kernel_rfl) (by kernel_rfl) rfl (fun _ _ h_ => R.asE rfl (by conv => lhs; whnf) (TL.nil h_)) ?_
                  refine Plan.done (Post.thnN ?_)
                  refine T.has Has.nil ?_
                  refine T.ret ?_
                  have hM : windroselaw14_wakes_m = (decide (r75 = r12.2)) := by subst er75; subst er69; subst er62; subst e60; subst er53; subst er34; subst er28; subst er24; subst er18; subst er12; rw [windroselaw14_wakes_m, LR.seq_go, LR.seq_go, LR.seq_go, LR.seq_go, LR.seq_go, if_pos g39, if_pos g43, if_pos g47, if_pos g51, LR.seq_go, if_pos g57, LR.seq_go, if_pos g66, LR.seq_go, if_pos g73, LR.seq_go]
                  exact fin1L (v := .bool (decide (r75 = r12.2))) [] rfl rfl (List.Sublist.refl _) ⟨rfl, by first | rw [hM] | rfl⟩
                refine Plan.v 37 [38, 39, 40, 41, 42] (by kernel_rfl) (by kernel_rfl) (by kernel_rfl) (by kernel_rfl) rfl (fun _ _ h_ => TL.off rfl rfl rfl (TL.nil h_)) ?_
                refine Plan.v 38 [39, 40, 41, 42] (by kernel_rfl) (by kernel_rfl) (by kernel_rfl) (by kernel_rfl) rfl (fun _ _ h_ => TL.off rfl rfl rfl (TL.nil h_)) ?_
                refine Plan.v 39 [40, 41, 42] (by kernel_rfl) (by kernel_rfl) (by kernel_rfl) (by kernel_rfl) rfl (fun _ _ h_ => TL.off rfl rfl rfl (TL.nil h_)) ?_
                refine Plan.v 40 [41, 42] (by kernel_rfl) (by kernel_rfl) (by kernel_rfl) (by kernel_rfl) rfl (fun _ _ h_ => TL.off rfl rfl rfl (TL.nil h_)) ?_
                refine Plan.v 41 [42] (by kernel_rfl) (by kernel_rfl) (by kernel_rfl) (by kernel_rfl) rfl (fun _ _ h_ => R.pkFE rfl rfl (by conv => lhs; whnf) (TL.nil h_)) ?_
                refine Plan.v 42 [] (by kernel_rfl) (by kernel_rfl) (by kernel_rfl) (by kernel_rfl) rfl (fun _ _ h_ => R.asE rfl (by conv => lhs; whnf) (TL.nil h_)) ?_
                refine Plan.done (Post.thnN ?_)
                refine T.has Has.nil ?_
                refine T.ret ?_
                have hM : windroselaw14_wakes_m = false := by subst er69; subst er62; subst e60; subst er53; subst er34; subst er28; subst er24; subst er18; subst er12; rw [windroselaw14_wakes_m, LR.seq_go, LR.seq_go, LR.seq_go, LR.seq_go, LR.seq_go, if_pos g39, if_pos g43, if_pos g47, if_pos g51, LR.seq_go, if_pos g57, LR.seq_go, if_pos g66, LR.seq_go, if_neg g73]
                exact fin1L (v := .bool false) [] rfl rfl (List.Sublist.refl _) ⟨rfl, by first | rw [hM] | rfl⟩
              refine Plan.v 30 [31, 32, 33, 34, 35, 36, 37, 38, 39, 40, 41, 42] (by kernel_rfl) (by kernel_rfl) (by kernel_rfl) (by kernel_rfl) rfl (fun _ _ h_ => TL.off rfl rfl rfl (TL.nil h_)) ?_
              refine Plan.v 31 [32, 33, 34, 35, 36, 37, 38, 39, 40, 41, 42] (by kernel_rfl) (by kernel_rfl) (by kernel_rfl) (by kernel_rfl) rfl (fun _ _ h_ => TL.off rfl rfl rfl (TL.nil h_)) ?_
              refine Plan.v 32 [33, 34, 35, 36, 37, 38, 39, 40, 41, 42] (by kernel_rfl) (by kernel_rfl) (by kernel_rfl) (by kernel_rfl) rfl (fun _ _ h_ => TL.off rfl rfl rfl (TL.nil h_)) ?_
              refine Plan.v 33 [34, 35, 36, 37, 38, 39, 40, 41, 42] (by kernel_rfl) (by kernel_rfl) (by kernel_rfl) (by kernel_rfl) rfl (fun _ _ h_ => TL.off rfl rfl rfl (TL.nil h_)) ?_
              refine Plan.v 34 [35, 36, 37, 38, 39, 40, 41, 42] (by kernel_rfl) (by kernel_rfl) (by kernel_rfl) (by kernel_rfl) rfl (fun _ _ h_ => TL.off rfl rfl rfl (TL.nil h_)) ?_
              refine Plan.v 35 [36, 37, 38, 39, 40, 41, 42] (by kernel_rfl) (by kernel_rfl) (by kernel_rfl) (by kernel_rfl) rfl (fun _ _ h_ => R.pkFE rfl rfl (by conv => lhs; whnf) (TL.nil h_)) ?_
              refine Plan.v 36 [37, 38, 39, 40, 41, 42] (by kernel_rfl) (by kernel_rfl) (by kernel_rfl) (by kernel_rfl) rfl (fun _ _ h_ => R.mvE rfl (by conv => lhs; whnf) (TL.nil h_)) ?_
              refine Plan.v 37 [38, 39, 40, 41, 42] (by kernel_rfl) (by kernel_rfl) (by kernel_rfl) (by kernel_rfl) rfl (fun _ _ h_ => TL.off rfl rfl rfl (TL.nil h_)) ?_
              refine Plan.v 38 [39, 40, 41, 42] (by kernel_rfl) (by kernel_rfl) (by kernel_rfl) (by kernel_rfl) rfl (fun _ _ h_ => TL.off rfl rfl rfl (TL.nil h_)) ?_
              refine Plan.v 39 [40, 41, 42] (by kernel_rfl) (by kernel_rfl) (by kernel_rfl) (by kernel_rfl) rfl (fun _ _ h_ => TL.off rfl rfl rfl (TL.nil h_)) ?_
              refine Plan.v 40 [41, 42] (by kernel_rfl) (by kernel_rfl) (by kernel_rfl) (by kernel_rfl) rfl (fun _ _ h_ => TL.off rfl rfl rfl (TL.nil h_)) ?_
              refine Plan.v 41 [42] (by kernel_rfl) (by kernel_rfl) (by kernel_rfl) (by kernel_rfl) rfl (fun _ _ h_ => R.pkFE rfl rfl (by conv => lhs; whnf) (TL.nil h_)) ?_
              refine Plan.v 42 [] (by kernel_rfl) (by kernel_rfl) (by kernel_rfl) (by kernel_rfl) rfl (fun _ _ h_ => R.asE rfl (by conv => lhs; whnf) (TL.nil h_)) ?_
              refine Plan.done (Post.thnN ?_)
              refine T.has Has.nil ?_
              refine T.ret ?_
              have hM : windroselaw14_wakes_m = false := by subst er62; subst e60; subst er53; subst er34; subst er28; subst er24; subst er18; subst er12; rw [windroselaw14_wakes_m, LR.seq_go, LR.seq_go, LR.seq_go, LR.seq_go, LR.seq_go, if_pos g39, if_pos g43, if_pos g47, if_pos g51, LR.seq_go, if_pos g57, LR.seq_go, if_neg g66]
              exact fin1L (v := .bool false) [] rfl rfl (List.Sublist.refl _) ⟨rfl, by first | rw [hM] | rfl⟩
            refine R.bsN [.int .i64 1, .int .i64 2] rfl Try.underlying37 Try.sizeOf3 Try.zeroValue3 rfl rfl rfl rfl rfl rfl ?_
            intro b63
            have w63 : OwnS (intE .i64) 3 H53 (.slice (some ⟨b63, 0, none⟩) 2 2) [1, 2] [(b63, .cells #[.int .i64 1, .int .i64 2] 3)] := OwnS.lit (xs := [1, 2]) (cellsOf_cons (a := [.int .i64 1]) rfl (cellsOf_cons (a := [.int .i64 2]) rfl cellsOf_nil)) (by show 2 ≤ maxLen; decide)
            refine TL.nil (Plan.e1 (HLe.refl _) ?_)
            refine Plan.s1 25 [27, 28, 29, 30, 31, 32, 33, 34, 35, 36, 37, 38, 39, 40, 41, 42] (by kernel_rfl) (by kernel_rfl) rfl ?_
            obtain ⟨r62, er62⟩ : ∃ r, r = (index_Find_m r24.1 y60) := ⟨_, rfl⟩
            refine TL.call [] rfl rfl rfl (index_Find_c _ r24.1 _ (fF24_0_0_5.mono (sb5_6.trans (s34.trans (sF34_0_0_7.trans (sb9_8.trans s53))))) (y60) (by first | omega | assumption | (simp; done) | (simp; omega) | (simp at *; omega)) (by first | assumption | exact rows_le (by assumption) (by omega) | (intro r h; simp at h; done))) ?_
            intro v62 H62 L62 s62 q62
            rw [← er62] at q62
            obtain ⟨u62_0_0, c62_0_0, rfl, rfl, w62_0_0⟩ := q62
            obtain ⟨A62_0_0, p62_0_0, rfl, m62_0_0, n62_0_0⟩ := OwnS.shape w62_0_0
            refine TL.nil (Plan.e1 (s62) ?_)
            refine Plan.s1 27 [28, 29, 30, 31, 32, 33, 34, 35, 36, 37, 38, 39, 40, 41, 42] (by kernel_rfl) (by kernel_rfl) rfl ?_
            refine TL.shut .hd ?_
            intro HF62_0_0_27 sF62_0_0_27 qF62_0_0_27
            have fF62_0_0_27 := OwnS.read w62_0_0 sF62_0_0_27 qF62_0_0_27
            refine TL.shut .hd ?_
            intro HF63_28 sF63_28 qF63_28
            have fF63_28 := OwnS.read (OwnS.mono w63 (s62.trans sF62_0_0_27)) sF63_28 qF63_28
            refine R.callv rfl rfl rfl (slices_Equal_int_d _ _ r62 (fF62_0_0_27.mono sF63_28) _ ([1, 2]) fF63_28) ?_
            refine TL.nil (Plan.e1 ((sF62_0_0_27.trans sF63_28)) ?_)
            refine Plan.v 28 [29, 30, 31, 32, 33, 34, 35, 36, 37, 38, 39, 40, 41, 42] (by kernel_rfl) (by kernel_rfl) (by kernel_rfl) (by kernel_rfl) rfl (fun _ _ h_ => R.pkTE rfl rfl (by conv => lhs; whnf) (TL.nil h_)) ?_
            refine Plan.v 29 [30, 31, 32, 33, 34, 35, 36, 37, 38, 39, 40, 41, 42] (by kernel_rfl) (by kernel_rfl) (by kernel_rfl) (by kernel_rfl) rfl (fun _ _ h_ => R.mvE rfl (by conv => lhs; whnf) (TL.nil h_)) ?_
            refine Plan.gsplitD 66 rfl (fun g66 => ?_) (fun g66 => ?_)
            · refine Plan.v 30 [31, 32, 33, 34, 35, 36, 37, 38, 39, 40, 41, 42] (by kernel_rfl) (by kernel_rfl) (by kernel_rfl) (by kernel_rfl) rfl (fun _ _ h_ => R.ldXH (cs := [.slice A24_0_0 r24.1.length p24_0_0]) (l := [.slice A24_0_0 r24.1.length p24_0_0]) Try.isAgg46 Try.sizeOf46 rfl rfl ((s34.trans (sF34_0_0_7.trans (sb9_8.trans (s53.trans (s62.trans (sF62_0_0_27.trans sF63_28)))))) _ _ hb5_6) rfl rfl (TL.nil h_)) ?_
              refine Plan.v 31 [32, 33, 34, 35, 36, 37, 38, 39, 40, 41, 42] (by kernel_rfl) (by kernel_rfl) (by kernel_rfl) (by kernel_rfl) rfl (fun _ _ h_ => R.mvE rfl (by conv => lhs; whnf) (TL.nil h_)) ?_
              refine Plan.s2 32 33 [33, 34, 35, 36, 37, 38, 39, 40, 41, 42] [32, 34, 35, 36, 37, 38, 39, 40, 41, 42] (by kernel_rfl) (by kernel_rfl) (by kernel_rfl) rfl rfl ?_ ?_
              · obtain ⟨r69, er69⟩ : ∃ r, r = (index_Find_m r24.1 r28.1) := ⟨_, rfl⟩
                refine TL.call [] rfl rfl rfl (index_Find_c _ r24.1 _ (fF24_0_0_5.mono (sb5_6.trans (s34.trans (sF34_0_0_7.trans (sb9_8.trans (s53.trans (s62.trans (sF62_0_0_27.trans sF63_28)))))))) (r28.1) (by first | omega | assumption | (simp; done) | (simp; omega) | (simp at *; omega)) (by first | assumption | exact rows_le (by assumption) (by omega) | (intro r h; simp at h; done))) ?_
                intro v69 H69 L69 s69 q69
                rw [← er69] at q69
                obtain ⟨u69_0_0, c69_0_0, rfl, rfl, w69_0_0⟩ := q69
                obtain ⟨A69_0_0, p69_0_0, rfl, m69_0_0, n69_0_0⟩ := OwnS.shape w69_0_0
                refine TL.nil (Plan.e1 (s69) ?_)
                refine Plan.s1 33 [34, 35, 36, 37, 38, 39, 40, 41, 42] (by kernel_rfl) (by kernel_rfl) rfl ?_
                refine R.bs rfl (run_buildSlice1 Try.underlying37 Try.sizeOf3 Try.zeroValue3 rfl rfl) ?_
                intro b70
                have w70 : OwnS (intE .i64) 3 H69 (.slice (some ⟨b70, 0, none⟩) 1 1) [2] [(b70, .cells #[.int .i64 2] 3)] := OwnS.lit (xs := [2]) (cellsOf_cons (a := [.int .i64 2]) rfl cellsOf_nil) (by show 1 ≤ maxLen; decide)
                refine TL.nil (Plan.e1 (HLe.refl _) ?_)
                refine Plan.s1 34 [35, 36, 37, 38, 39, 40, 41, 42] (by kernel_rfl) (by kernel_rfl) rfl ?_
                refine TL.shut (.tl .hd) ?_
                intro HF69_0_0_31 sF69_0_0_31 qF69_0_0_31
                have fF69_0_0_31 := OwnS.read w69_0_0 sF69_0_0_31 qF69_0_0_31
                refine TL.shut .hd ?_
                intro HF70_32 sF70_32 qF70_32
                have fF70_32 := OwnS.read (OwnS.mono w70 sF69_0_0_31) sF70_32 qF70_32
                refine R.callv rfl rfl rfl (slices_Equal_int_d _ _ r69 (fF69_0_0_31.mono sF70_32) _ ([2]) fF70_32) ?_
                refine TL.nil (Plan.e1 ((sF69_0_0_31.trans sF70_32)) ?_)
                refine Plan.v 35 [36, 37, 38, 39, 40, 41, 42] (by kernel_rfl) (by kernel_rfl) (by kernel_rfl) (by kernel_rfl) rfl (fun _ _ h_ => R.pkTE rfl rfl (by conv => lhs; whnf) (TL.nil h_)) ?_
                refine Plan.v 36 [37, 38, 39, 40, 41, 42] (by kernel_rfl) (by kernel_rfl) (by kernel_rfl) (by kernel_rfl) rfl (fun _ _ h_ => R.mvE rfl (by conv => lhs; whnf) (TL.nil h_)) ?_
                refine Plan.gsplitD 73 rfl (fun g73 => ?_) (fun g73 => ?_)
                · refine Plan.v 37 [38, 39, 40, 41, 42] (by kernel_rfl) (by kernel_rfl) (by kernel_rfl) (by kernel_rfl) rfl (fun _ _ h_ => R.ldXH (cs := [.slice A24_0_0 r24.1.length p24_0_0]) (l := [.slice A24_0_0 r24.1.length p24_0_0]) Try.isAgg46 Try.sizeOf46 rfl rfl ((s34.trans (sF34_0_0_7.trans (sb9_8.trans (s53.trans (s62.trans (sF62_0_0_27.trans (sF63_28.trans (s69.trans (sF69_0_0_31.trans sF70_32))))))))) _ _ hb5_6) rfl rfl (TL.nil h_)) ?_
                  refine Plan.v 39 [38, 40, 41, 42] (by kernel_rfl) (by kernel_rfl) (by kernel_rfl) (by kernel_rfl) rfl (fun _ _ h_ => R.mvE rfl (by conv => lhs; whnf) (TL.nil h_)) ?_
                  refine Plan.s1 38 [40, 41, 42] (by kernel_rfl) (by kernel_rfl) rfl ?_
                  obtain ⟨r75, er75⟩ : ∃ r, r = (index_Type_m r24.1 2) := ⟨_, rfl⟩
                  refine TL.call [] rfl rfl rfl (index_Type_c _ r24.1 _ (fF24_0_0_5.mono (sb5_6.trans (s34.trans (sF34_0_0_7.trans (sb9_8.trans (s53.trans (s62.trans (sF62_0_0_27.trans (sF63_28.trans (s69.trans (sF69_0_0_31.trans sF70_32))))))))))) (2) (by first | omega | assumption | (simp; done) | (simp; omega) | (simp at *; omega)) (by first | assumption | exact rows_le (by assumption) (by omega) | (intro r h; simp at h; done))) ?_
                  intro v75 H75 L75 s75 q75
                  rw [← er75] at q75
                  obtain ⟨u75_0_0, c75_0_0, rfl, rfl, w75_0_0⟩ := q75
                  obtain ⟨A75_0_0, p75_0_0, rfl, m75_0_0, n75_0_0⟩ := OwnS.shape w75_0_0
                  refine TL.nil (Plan.e1 (s75) ?_)
                  refine Plan.s1 40 [41, 42] (by kernel_rfl) (by kernel_rfl) rfl ?_
                  refine TL.shut .hd ?_
                  intro HF75_0_0_34 sF75_0_0_34 qF75_0_0_34
                  have fF75_0_0_34 := OwnS.read w75_0_0 sF75_0_0_34 qF75_0_0_34
                  refine R.callv rfl rfl rfl (slices_Equal_Id_d _ _ r75 fF75_0_0_34 _ r12.2 (fF12_1_0_4.mono (s24.trans (sF24_0_0_5.trans (sb5_6.trans (s34.trans (sF34_0_0_7.trans (sb9_8.trans (s53.trans (s62.trans (sF62_0_0_27.trans (sF63_28.trans (s69.trans (sF69_0_0_31.trans (sF70_32.trans (s75.trans sF75_0_0_34)))))))))))))))) ?_
                  refine TL.nil (Plan.e1 (sF75_0_0_34) ?_)
                  refine Plan.v 41 [42] (by kernel_rfl) (by kernel_rfl) (by kernel_rfl) (by kernel_rfl) rfl (fun _ _ h_ => R.pkTE rfl rfl (by conv => lhs; whnf) (TL.nil h_)) ?_
                  refine Plan.v 42 [] (by kernel_rfl) (by kernel_rfl) (by kernel_rfl) (by kernel_rfl) rfl (fun _ _ h_ => R.asE rfl (by conv => lhs; whnf) (TL.nil h_)) ?_
                  refine Plan.done (Post.thnN ?_)
                  refine T.has Has.nil ?_
                  refine T.ret ?_
                  have hM : windroselaw14_wakes_m = (decide (r75 = r12.2)) := by subst er75; subst er69; subst er62; subst e60; subst er53; subst er34; subst er28; subst er24; subst er18; subst er12; rw [windroselaw14_wakes_m, LR.seq_go, LR.seq_go, LR.seq_go, LR.seq_go, LR.seq_go, if_pos g39, if_pos g43, if_pos g47, if_pos g51, LR.seq_go, if_pos g57, LR.seq_go, if_pos g66, LR.seq_go, if_pos g73, LR.seq_go]
                  exact fin1L (v := .bool (decide (r75 = r12.2))) [] rfl rfl (List.Sublist.refl _) ⟨rfl, by first | rw [hM] | rfl⟩
                refine Plan.v 37 [38, 39, 40, 41, 42] (by kernel_rfl) (by kernel_rfl) (by kernel_rfl) (by kernel_rfl) rfl (fun _ _ h_ => TL.off rfl rfl rfl (TL.nil h_)) ?_
                refine Plan.v 38 [39, 40, 41, 42] (by kernel_rfl) (by kernel_rfl) (by kernel_rfl) (by kernel_rfl) rfl (fun _ _ h_ => TL.off rfl rfl rfl (TL.nil h_)) ?_
                refine Plan.v 39 [40, 41, 42] (by kernel_rfl) (by kernel_rfl) (by kernel_rfl) (by kernel_rfl) rfl (fun _ _ h_ => TL.off rfl rfl rfl (TL.nil h_)) ?_
                refine Plan.v 40 [41, 42] (by kernel_rfl) (by kernel_rfl) (by kernel_rfl) (by kernel_rfl) rfl (fun _ _ h_ => TL.off rfl rfl rfl (TL.nil h_)) ?_
                refine Plan.v 41 [42] (by kernel_rfl) (by kernel_rfl) (by kernel_rfl) (by kernel_rfl) rfl (fun _ _ h_ => R.pkFE rfl rfl (by conv => lhs; whnf) (TL.nil h_)) ?_
                refine Plan.v 42 [] (by kernel_rfl) (by kernel_rfl) (by kernel_rfl) (by kernel_rfl) rfl (fun _ _ h_ => R.asE rfl (by conv => lhs; whnf) (TL.nil h_)) ?_
                refine Plan.done (Post.thnN ?_)
                refine T.has Has.nil ?_
                refine T.ret ?_
                have hM : windroselaw14_wakes_m = false := by subst er69; subst er62; subst e60; subst er53; subst er34; subst er28; subst er24; subst er18; subst er12; rw [windroselaw14_wakes_m, LR.seq_go, LR.seq_go, LR.seq_go, LR.seq_go, LR.seq_go, if_pos g39, if_pos g43, if_pos g47, if_pos g51, LR.seq_go, if_pos g57, LR.seq_go, if_pos g66, LR.seq_go, if_neg g73]
                exact fin1L (v := .bool false) [] rfl rfl (List.Sublist.refl _) ⟨rfl, by first | rw [hM] | rfl⟩
              refine R.bs rfl (run_buildSlice1 Try.underlying37 Try.sizeOf3 Try.zeroValue3 rfl rfl) ?_
              intro b70
              have w70 : OwnS (intE .i64) 3 HF63_28 (.slice (some ⟨b70, 0, none⟩) 1 1) [2] [(b70, .cells #[.int .i64 2] 3)] := OwnS.lit (xs := [2]) (cellsOf_cons (a := [.int .i64 2]) rfl cellsOf_nil) (by show 1 ≤ maxLen; decide)
              refine TL.nil (Plan.e1 (HLe.refl _) ?_)
              refine Plan.s1 32 [34, 35, 36, 37, 38, 39, 40, 41, 42] (by kernel_rfl) (by kernel_rfl) rfl ?_
              obtain ⟨r69, er69⟩ : ∃ r, r = (index_Find_m r24.1 r28.1) := ⟨_, rfl⟩
              refine TL.call [] rfl rfl rfl (index_Find_c _ r24.1 _ (fF24_0_0_5.mono (sb5_6.trans (s34.trans (sF34_0_0_7.trans (sb9_8.trans (s53.trans (s62.trans (sF62_0_0_27.trans sF63_28)))))))) (r28.1) (by first | omega | assumption | (simp; done) | (simp; omega) | (simp at *; omega)) (by first | assumption | exact rows_le (by assumption) (by omega) | (intro r h; simp at h; done))) ?_
              intro v69 H69 L69 s69 q69
              rw [← er69] at q69
              obtain ⟨u69_0_0, c69_0_0, rfl, rfl, w69_0_0⟩ := q69
              obtain ⟨A69_0_0, p69_0_0, rfl, m69_0_0, n69_0_0⟩ := OwnS.shape w69_0_0
              refine TL.nil (Plan.e1 (s69) ?_)
              refine Plan.s1 34 [35, 36, 37, 38, 39, 40, 41, 42] (by kernel_rfl) (by kernel_rfl) rfl ?_
              refine TL.shut .hd ?_
              intro HF69_0_0_37 sF69_0_0_37 qF69_0_0_37
              have fF69_0_0_37 := OwnS.read w69_0_0 sF69_0_0_37 qF69_0_0_37
              refine TL.shut .hd ?_
              intro HF70_38 sF70_38 qF70_38
              have fF70_38 := OwnS.read (OwnS.mono w70 (s69.trans sF69_0_0_37)) sF70_38 qF70_38
              refine R.callv rfl rfl rfl (slices_Equal_int_d _ _ r69 (fF69_0_0_37.mono sF70_38) _ ([2]) fF70_38) ?_
              refine TL.nil (Plan.e1 ((sF69_0_0_37.trans sF70_38)) ?_)
              refine Plan.v 35 [36, 37, 38, 39, 40, 41, 42] (by kernel_rfl) (by kernel_rfl) (by kernel_rfl) (by kernel_rfl) rfl (fun _ _ h_ => R.pkTE rfl rfl (by conv => lhs; whnf) (TL.nil h_)) ?_
              refine Plan.v 36 [37, 38, 39, 40, 41, 42] (by kernel_rfl) (by kernel_rfl) (by kernel_rfl) (by kernel_rfl) rfl (fun _ _ h_ => R.mvE rfl (by conv => lhs; whnf) (TL.nil h_)) ?_
              refine Plan.gsplitD 73 rfl (fun g73 => ?_) (fun g73 => ?_)
              · refine Plan.v 37 [38, 39, 40, 41, 42] (by kernel_rfl) (by kernel_rfl) (by kernel_rfl) (by kernel_rfl) rfl (fun _ _ h_ => R.ldXH (cs := [.slice A24_0_0 r24.1.length p24_0_0]) (l := [.slice A24_0_0 r24.1.length p24_0_0]) Try.isAgg46 Try.sizeOf46 rfl rfl ((s34.trans (sF34_0_0_7.trans (sb9_8.trans (s53.trans (s62.trans (sF62_0_0_27.trans (sF63_28.trans (s69.trans (sF69_0_0_37.trans sF70_38))))))))) _ _ hb5_6) rfl rfl (TL.nil h_)) ?_
                refine Plan.v 39 [38, 40, 41, 42] (by kernel_rfl) (by kernel_rfl) (by kernel_rfl) (by kernel_rfl) rfl (fun _ _ h_ => R.mvE rfl (by conv => lhs; whnf) (TL.nil h_)) ?_
                refine Plan.s1 38 [40, 41, 42] (by kernel_rfl) (by kernel_rfl) rfl ?_
                obtain ⟨r75, er75⟩ : ∃ r, r = (index_Type_m r24.1 2) := ⟨_, rfl⟩
                refine TL.call [] rfl rfl rfl (index_Type_c _ r24.1 _ (fF24_0_0_5.mono (sb5_6.trans (s34.trans (sF34_0_0_7.trans (sb9_8.trans (s53.trans (s62.trans (sF62_0_0_27.trans (sF63_28.trans (s69.trans (sF69_0_0_37.trans sF70_38))))))))))) (2) (by first | omega | assumption | (simp; done) | (simp; omega) | (simp at *; omega)) (by first | assumption | exact rows_le (by assumption) (by omega) | (intro r h; simp at h; done))) ?_
                intro v75 H75 L75 s75 q75
                rw [← er75] at q75
                obtain ⟨u75_0_0, c75_0_0, rfl, rfl, w75_0_0⟩ := q75
                obtain ⟨A75_0_0, p75_0_0, rfl, m75_0_0, n75_0_0⟩ := OwnS.shape w75_0_0
                refine TL.nil (Plan.e1 (s75) ?_)
                refine Plan.s1 40 [41, 42] (by kernel_rfl) (by kernel_rfl) rfl ?_
                refine TL.shut .hd ?_
                intro HF75_0_0_40 sF75_0_0_40 qF75_0_0_40
                have fF75_0_0_40 := OwnS.read w75_0_0 sF75_0_0_40 qF75_0_0_40
                refine R.callv rfl rfl rfl (slices_Equal_Id_d _ _ r75 fF75_0_0_40 _ r12.2 (fF12_1_0_4.mono (s24.trans (sF24_0_0_5.trans (sb5_6.trans (s34.trans (sF34_0_0_7.trans (sb9_8.trans (s53.trans (s62.trans (sF62_0_0_27.trans (sF63_28.trans (s69.trans (sF69_0_0_37.trans (sF70_38.trans (s75.trans sF75_0_0_40)))))))))))))))) ?_
                refine TL.nil (Plan.e1 (sF75_0_0_40) ?_)
                refine Plan.v 41 [42] (by kernel_rfl) (by kernel_rfl) (by kernel_rfl) (by kernel_rfl) rfl (fun _ _ h_ => R.pkTE rfl rfl (by conv => lhs; whnf) (TL.nil h_)) ?_
                refine Plan.v 42 [] (by kernel_rfl) (by kernel_rfl) (by kernel_rfl) (by kernel_rfl) rfl (fun _ _ h_ => R.asE rfl (by conv => lhs; whnf) (TL.nil h_)) ?_
                refine Plan.done (Post.thnN ?_)
                refine T.has Has.nil ?_
                refine T.ret ?_
                have hM : windroselaw14_wakes_m = (decide (r75 = r12.2)) := by subst er75; subst er69; subst er62; subst e60; subst er53; subst er34; subst er28; subst er24; subst er18; subst er12; rw [windroselaw14_wakes_m, LR.seq_go, LR.seq_go, LR.seq_go, LR.seq_go, LR.seq_go, if_pos g39, if_pos g43, if_pos g47, if_pos g51, LR.seq_go, if_pos g57, LR.seq_go, if_pos g66, LR.seq_go, if_pos g73, LR.seq_go]
                exact fin1L (v := .bool (decide (r75 = r12.2))) [] rfl rfl (List.Sublist.refl _) ⟨rfl, by first | rw [hM] | rfl⟩
              refine Plan.v 37 [38, 39, 40, 41, 42] (by kernel_rfl) (by kernel_rfl) (by kernel_rfl) (by kernel_rfl) rfl (fun _ _ h_ => TL.off rfl rfl rfl (TL.nil h_)) ?_
              refine Plan.v 38 [39, 40, 41, 42] (by kernel_rfl) (by kernel_rfl) (by kernel_rfl) (by kernel_rfl) rfl (fun _ _ h_ => TL.off rfl rfl rfl (TL.nil h_)) ?_
              refine Plan.v 39 [40, 41, 42] (by kernel_rfl) (by kernel_rfl) (by kernel_rfl) (by kernel_rfl) rfl (fun _ _ h_ => TL.off rfl rfl rfl (TL.nil h_)) ?_
              refine Plan.v 40 [41, 42] (by kernel_rfl) (by kernel_rfl) (by kernel_rfl) (by kernel_rfl) rfl (fun _ _ h_ => TL.off rfl rfl rfl (TL.nil h_)) ?_
              refine Plan.v 41 [42] (by kernel_rfl) (by kernel_rfl) (by kernel_rfl) (by kernel_rfl) rfl (fun _ _ h_ => R.pkFE rfl rfl (by conv => lhs; whnf) (TL.nil h_)) ?_
              refine Plan.v 42 [] (by kernel_rfl) (by kernel_rfl) (by kernel_rfl) (by kernel_rfl) rfl (fun _ _ h_ => R.asE rfl (by conv => lhs; whnf) (TL.nil h_)) ?_
              refine Plan.done (Post.thnN ?_)
              refine T.has Has.nil ?_
              refine T.ret ?_
              have hM : windroselaw14_wakes_m = false := by subst er69; subst er62; subst e60; subst er53; subst er34; subst er28; subst er24; subst er18; subst er12; rw [windroselaw14_wakes_m, LR.seq_go, LR.seq_go, LR.seq_go, LR.seq_go, LR.seq_go, if_pos g39, if_pos g43, if_pos g47, if_pos g51, LR.seq_go, if_pos g57, LR.seq_go, if_pos g66, LR.seq_go, if_neg g73]
              exact fin1L (v := .bool false) [] rfl rfl (List.Sublist.refl _) ⟨rfl, by first | rw [hM] | rfl⟩
            refine Plan.v 30 [31, 32, 33, 34, 35, 36, 37, 38, 39, 40, 41, 42] (by kernel_rfl) (by kernel_rfl) (by kernel_rfl) (by kernel_rfl) rfl (fun _ _ h_ => TL.off rfl rfl rfl (TL.nil h_)) ?_
            refine Plan.v 31 [32, 33, 34, 35, 36, 37, 38, 39, 40, 41, 42] (by kernel_rfl) (by kernel_rfl) (by kernel_rfl) (by kernel_rfl) rfl (fun _ _ h_ => TL.off rfl rfl rfl (TL.nil h_)) ?_
            refine Plan.v 32 [33, 34, 35, 36, 37, 38, 39, 40, 41, 42] (by kernel_rfl) (by kernel_rfl) (by kernel_rfl) (by kernel_rfl) rfl (fun _ _ h_ => TL.off rfl rfl rfl (TL.nil h_)) ?_
            refine Plan.v 33 [34, 35, 36, 37, 38, 39, 40, 41, 42] (by kernel_rfl) (by kernel_rfl) (by kernel_rfl) (by kernel_rfl) rfl (fun _ _ h_ => TL.off rfl rfl rfl (TL.nil h_)) ?_
            refine Plan.v 34 [35, 36, 37, 38, 39, 40, 41, 42] (by kernel_rfl) (by kernel_rfl) (by kernel_rfl) (by kernel_rfl) rfl (fun _ _ h_ => TL.off rfl rfl rfl (TL.nil h_)) ?_
            refine Plan.v 35 [36, 37, 38, 39, 40, 41, 42] (by kernel_rfl) (by kernel_rfl) (by kernel_rfl) (by kernel_rfl) rfl (fun _ _ h_ => R.pkFE rfl rfl (by conv => lhs; whnf) (TL.nil h_)) ?_
            refine Plan.v 36 [37, 38, 39, 40, 41, 42] (by kernel_rfl) (by kernel_rfl) (by kernel_rfl) (by kernel_rfl) rfl (fun _ _ h_ => R.mvE rfl (by conv => lhs; whnf) (TL.nil h_)) ?_
            refine Plan.v 37 [38, 39, 40, 41, 42] (by kernel_rfl) (by kernel_rfl) (by kernel_rfl) (by kernel_rfl) rfl (fun _ _ h_ => TL.off rfl rfl rfl (TL.nil h_)) ?_
            refine Plan.v 38 [39, 40, 41, 42] (by kernel_rfl) (by kernel_rfl) (by kernel_rfl) (by kernel_rfl) rfl (fun _ _ h_ => TL.off rfl rfl rfl (TL.nil h_)) ?_
            refine Plan.v 39 [40, 41, 42] (by kernel_rfl) (by kernel_rfl) (by kernel_rfl) (by kernel_rfl) rfl (fun _ _ h_ => TL.off rfl rfl rfl (TL.nil h_)) ?_
            refine Plan.v 40 [41, 42] (by kernel_rfl) (by kernel_rfl) (by kernel_rfl) (by kernel_rfl) rfl (fun _ _ h_ => TL.off rfl rfl rfl (TL.nil h_)) ?_
            refine Plan.v 41 [42] (by kernel_rfl) (by kernel_rfl) (by kernel_rfl) (by kernel_rfl) rfl (fun _ _ h_ => R.pkFE rfl rfl (by conv => lhs; whnf) (TL.nil h_)) ?_
            refine Plan.v 42 [] (by kernel_rfl) (by kernel_rfl) (by kernel_rfl) (by kernel_rfl) rfl (fun _ _ h_ => R.asE rfl (by conv => lhs; whnf) (TL.nil h_)) ?_
            refine Plan.done (Post.thnN ?_)
            refine T.has Has.nil ?_
            refine T.ret ?_
            have hM : windroselaw14_wakes_m = false := by subst er62; subst e60; subst er53; subst er34; subst er28; subst er24; subst er18; subst er12; rw [windroselaw14_wakes_m, LR.seq_go, LR.seq_go, LR.seq_go, LR.seq_go, LR.seq_go, if_pos g39, if_pos g43, if_pos g47, if_pos g51, LR.seq_go, if_pos g57, LR.seq_go, if_neg g66]
            exact fin1L (v := .bool false) [] rfl rfl (List.Sublist.refl _) ⟨rfl, by first | rw [hM] | rfl⟩
          refine Plan.v 21 [22, 23, 24, 25, 26, 27, 28, 29, 30, 31, 32, 33, 34, 35, 36, 37, 38, 39, 40, 41, 42] (by kernel_rfl) (by kernel_rfl) (by kernel_rfl) (by kernel_rfl) rfl (fun _ _ h_ => TL.off rfl rfl rfl (TL.nil h_)) ?_
          refine Plan.v 22 [23, 24, 25, 26, 27, 28, 29, 30, 31, 32, 33, 34, 35, 36, 37, 38, 39, 40, 41, 42] (by kernel_rfl) (by kernel_rfl) (by kernel_rfl) (by kernel_rfl) rfl (fun _ _ h_ => TL.off rfl rfl rfl (TL.nil h_)) ?_
          refine Plan.v 23 [24, 25, 26, 27, 28, 29, 30, 31, 32, 33, 34, 35, 36, 37, 38, 39, 40, 41, 42] (by kernel_rfl) (by kernel_rfl) (by kernel_rfl) (by kernel_rfl) rfl (fun _ _ h_ => TL.off rfl rfl rfl (TL.nil h_)) ?_
          refine Plan.v 24 [25, 26, 27, 28, 29, 30, 31, 32, 33, 34, 35, 36, 37, 38, 39, 40, 41, 42] (by kernel_rfl) (by kernel_rfl) (by kernel_rfl) (by kernel_rfl) rfl (fun _ _ h_ => TL.off rfl rfl rfl (TL.nil h_)) ?_
          refine Plan.v 25 [26, 27, 28, 29, 30, 31, 32, 33, 34, 35, 36, 37, 38, 39, 40, 41, 42] (by kernel_rfl) (by kernel_rfl) (by kernel_rfl) (by kernel_rfl) rfl (fun _ _ h_ => TL.off rfl rfl rfl (TL.nil h_)) ?_
          refine Plan.v 26 [27, 28, 29, 30, 31, 32, 33, 34, 35, 36, 37, 38, 39, 40, 41, 42] (by kernel_rfl) (by kernel_rfl) (by kernel_rfl) (by kernel_rfl) rfl (fun _ _ h_ => TL.off rfl rfl rfl (TL.nil h_)) ?_
          refine Plan.v 27 [28, 29, 30, 31, 32, 33, 34, 35, 36, 37, 38, 39, 40, 41, 42] (by kernel_rfl) (by kernel_rfl) (by kernel_rfl) (by kernel_rfl) rfl (fun _ _ h_ => TL.off rfl rfl rfl (TL.nil h_)) ?_
          refine Plan.v 28 [29, 30, 31, 32, 33, 34, 35, 36, 37, 38, 39, 40, 41, 42] (by kernel_rfl) (by kernel_rfl) (by kernel_rfl) (by kernel_rfl) rfl (fun _ _ h_ => R.pkFE rfl rfl (by conv => lhs; whnf) (TL.nil h_)) ?_
          refine Plan.v 29 [30, 31, 32, 33, 34, 35, 36, 37, 38, 39, 40, 41, 42] (by kernel_rfl) (by kernel_rfl) (by kernel_rfl) (by kernel_rfl) rfl (fun _ _ h_ => R.mvE rfl (by conv => lhs; whnf) (TL.nil h_)) ?_
          refine Plan.v 30 [31, 32, 33, 34, 35, 36, 37, 38, 39, 40, 41, 42] (by kernel_rfl) (by kernel_rfl) (by kernel_rfl) (by kernel_rfl) rfl (fun _ _ h_ => TL.off rfl rfl rfl (TL.nil h_)) ?_
          refine Plan.v 31 [32, 33, 34, 35, 36, 37, 38, 39, 40, 41, 42] (by kernel_rfl) (by kernel_rfl) (by kernel_rfl) (by kernel_rfl) rfl (fun _ _ h_ => TL.off rfl rfl rfl (TL.nil h_)) ?_
          refine Plan.v 32 [33, 34, 35, 36, 37, 38, 39, 40, 41, 42] (by kernel_rfl) (by kernel_rfl) (by kernel_rfl) (by kernel_rfl) rfl (fun _ _ h_ => TL.off rfl rfl rfl (TL.nil h_)) ?_
          refine Plan.v 33 [34, 35, 36, 37, 38, 39, 40, 41, 42] (by kernel_rfl) (by kernel_rfl) (by kernel_rfl) (by kernel_rfl) rfl (fun _ _ h_ => TL.off rfl rfl rfl (TL.nil h_)) ?_
          refine Plan.v 34 [35, 36, 37, 38, 39, 40, 41, 42] (by kernel_rfl) (by kernel_rfl) (by kernel_rfl) (by kernel_rfl) rfl (fun _ _ h_ => TL.off rfl rfl rfl (TL.nil h_)) ?_
          refine Plan.v 35 [36, 37, 38, 39, 40, 41, 42] (by kernel_rfl) (by kernel_rfl) (by kernel_rfl) (by kernel_rfl) rfl (fun _ _ h_ => R.pkFE rfl rfl (by conv => lhs; whnf) (TL.nil h_)) ?_
          refine Plan.v 36 [37, 38, 39, 40, 41, 42] (by kernel_rfl) (by kernel_rfl) (by kernel_rfl) (by kernel_rfl) rfl (fun _ _ h_ => R.mvE rfl (by conv => lhs; whnf) (TL.nil h_)) ?_
          refine Plan.v 37 [38, 39, 40, 41, 42] (by kernel_rfl) (by kernel_rfl) (by kernel_rfl) (by kernel_rfl) rfl (fun _ _ h_ => TL.off rfl rfl rfl (TL.nil h_)) ?_
          refine Plan.v 38 [39, 40, 41, 42] (by kernel_rfl) (by kernel_rfl) (by kernel_rfl) (by kernel_rfl) rfl (fun _ _ h_ => TL.off rfl rfl rfl (TL.nil h_)) ?_
          refine Plan.v 39 [40, 41, 42] (by kernel_rfl) (by kernel_rfl) (by kernel_rfl) (by kernel_rfl) rfl (fun _ _ h_ => TL.off rfl rfl rfl (TL.nil h_)) ?_
          refine Plan.v 40 [41, 42] (by kernel_rfl) (by kernel_rfl) (by kernel_rfl) (by kernel_rfl) rfl (fun _ _ h_ => TL.off rfl rfl rfl (TL.nil h_)) ?_
          refine Plan.v 41 [42] (by kernel_rfl) (by kernel_rfl) (by kernel_rfl) (by kernel_rfl) rfl (fun _ _ h_ => R.pkFE rfl rfl (by conv => lhs; whnf) (TL.nil h_)) ?_
          refine Plan.v 42 [] (by kernel_rfl) (by kernel_rfl) (by kernel_rfl) (by kernel_rfl) rfl (fun _ _ h_ => R.asE rfl (by conv => lhs; whnf) (TL.nil h_)) ?_
          refine Plan.done (Post.thnN ?_)
          refine T.has Has.nil ?_
          refine T.ret ?_
          have hM : windroselaw14_wakes_m = false := by subst er53; subst er34; subst er28; subst er24; subst er18; subst er12; rw [windroselaw14_wakes_m, LR.seq_go, LR.seq_go, LR.seq_go, LR.seq_go, LR.seq_go, if_pos g39, if_pos g43, if_pos g47, if_pos g51, LR.seq_go, if_neg g57]
          exact fin1L (v := .bool false) [] rfl rfl (List.Sublist.refl _) ⟨rfl, by first | rw [hM] | rfl⟩
        refine Plan.v 15 [16, 17, 18, 19, 20, 21, 22, 23, 24, 25, 26, 27, 28, 29, 30, 31, 32, 33, 34, 35, 36, 37, 38, 39, 40, 41, 42] (by kernel_rfl) (by kernel_rfl) (by kernel_rfl) (by kernel_rfl) rfl (fun _ _ h_ => TL.off rfl rfl rfl (TL.nil h_)) ?_
        refine Plan.v 16 [17, 18, 19, 20, 21, 22, 23, 24, 25, 26, 27, 28, 29, 30, 31, 32, 33, 34, 35, 36, 37, 38, 39, 40, 41, 42] (by kernel_rfl) (by kernel_rfl) (by kernel_rfl) (by kernel_rfl) rfl (fun _ _ h_ => TL.off rfl rfl rfl (TL.nil h_)) ?_
        refine Plan.v 17 [18, 19, 20, 21, 22, 23, 24, 25, 26, 27, 28, 29, 30, 31, 32, 33, 34, 35, 36, 37, 38, 39, 40, 41, 42] (by kernel_rfl) (by kernel_rfl) (by kernel_rfl) (by kernel_rfl) rfl (fun _ _ h_ => TL.off rfl rfl rfl (TL.nil h_)) ?_
        refine Plan.v 18 [19, 20, 21, 22, 23, 24, 25, 26, 27, 28, 29, 30, 31, 32, 33, 34, 35, 36, 37, 38, 39, 40, 41, 42] (by kernel_rfl) (by kernel_rfl) (by kernel_rfl) (by kernel_rfl) rfl (fun _ _ h_ => TL.off rfl rfl rfl (TL.nil h_)) ?_
        refine Plan.v 19 [20, 21, 22, 23, 24, 25, 26, 27, 28, 29, 30, 31, 32, 33, 34, 35, 36, 37, 38, 39, 40, 41, 42] (by kernel_rfl) (by kernel_rfl) (by kernel_rfl) (by kernel_rfl) rfl (fun _ _ h_ => R.pkFE rfl rfl (by conv => lhs; whnf) (TL.nil h_)) ?_
        refine Plan.v 20 [21, 22, 23, 24, 25, 26, 27, 28, 29, 30, 31, 32, 33, 34, 35, 36, 37, 38, 39, 40, 41, 42] (by kernel_rfl) (by kernel_rfl) (by kernel_rfl) (by kernel_rfl) rfl (fun _ _ h_ => R.mvE rfl (by conv => lhs; whnf) (TL.nil h_)) ?_
        refine Plan.v 21 [22, 23, 24, 25, 26, 27, 28, 29, 30, 31, 32, 33, 34, 35, 36, 37, 38, 39, 40, 41, 42] (by kernel_rfl) (by kernel_rfl) (by kernel_rfl) (by kernel_rfl) rfl (fun _ _ h_ => TL.off rfl rfl rfl (TL.nil h_)) ?_
        refine Plan.v 22 [23, 24, 25, 26, 27, 28, 29, 30, 31, 32, 33, 34, 35, 36, 37, 38, 39, 40, 41, 42] (by kernel_rfl) (by kernel_rfl) (by kernel_rfl) (by kernel_rfl) rfl (fun _ _ h_ => TL.off rfl rfl rfl (TL.nil h_)) ?_
        refine Plan.v 23 [24, 25, 26, 27, 28, 29, 30, 31, 32, 33, 34, 35, 36, 37, 38, 39, 40, 41, 42] (by kernel_rfl) (by kernel_rfl) (by kernel_rfl) (by kernel_rfl) rfl (fun _ _ h_ => TL.off rfl rfl rfl (TL.nil h_)) ?_
        refine Plan.v 24 [25, 26, 27, 28, 29, 30, 31, 32, 33, 34, 35, 36, 37, 38, 39, 40, 41, 42] (by kernel_rfl) (by kernel_rfl) (by kernel_rfl) (by kernel_rfl) rfl (fun _ _ h_ => TL.off rfl rfl rfl (TL.nil h_)) ?_
        refine Plan.v 25 [26, 27, 28, 29, 30, 31, 32, 33, 34, 35, 36, 37, 38, 39, 40, 41, 42] (by kernel_rfl) (by kernel_rfl) (by kernel_rfl) (by kernel_rfl) rfl (fun _ _ h_ => TL.off rfl rfl rfl (TL.nil h_)) ?_
        refine Plan.v 26 [27, 28, 29, 30, 31, 32, 33, 34, 35, 36, 37, 38, 39, 40, 41, 42] (by kernel_rfl) (by kernel_rfl) (by kernel_rfl) (by kernel_rfl) rfl (fun _ _ h_ => TL.off rfl rfl rfl (TL.nil h_)) ?_
        refine Plan.v 27 [28, 29, 30, 31, 32, 33, 34, 35, 36, 37, 38, 39, 40, 41, 42] (by kernel_rfl) (by kernel_rfl) (by kernel_rfl) (by kernel_rfl) rfl (fun _ _ h_ => TL.off rfl rfl rfl (TL.nil h_)) ?_
        refine Plan.v 28 [29, 30, 31, 32, 33, 34, 35, 36, 37, 38, 39, 40, 41, 42] (by kernel_rfl) (by kernel_rfl) (by kernel_rfl) (by kernel_rfl) rfl (fun _ _ h_ => R.pkFE rfl rfl (by conv => lhs; whnf) (TL.nil h_)) ?_
        refine Plan.v 29 [30, 31, 32, 33, 34, 35, 36, 37, 38, 39, 40, 41, 42] (by kernel_rfl) (by kernel_rfl) (by kernel_rfl) (by kernel_rfl) rfl (fun _ _ h_ => R.mvE rfl (by conv => lhs; whnf) (TL.nil h_)) ?_
        refine Plan.v 30 [31, 32, 33, 34, 35, 36, 37, 38, 39, 40, 41, 42] (by kernel_rfl) (by kernel_rfl) (by kernel_rfl) (by kernel_rfl) rfl (fun _ _ h_ => TL.off rfl rfl rfl (TL.nil h_)) ?_
        refine Plan.v 31 [32, 33, 34, 35, 36, 37, 38, 39, 40, 41, 42] (by kernel_rfl) (by kernel_rfl) (by kernel_rfl) (by kernel_rfl) rfl (fun _ _ h_ => TL.off rfl rfl rfl (TL.nil h_)) ?_
        refine Plan.v 32 [33, 34, 35, 36, 37, 38, 39, 40, 41, 42] (by kernel_rfl) (by kernel_rfl) (by kernel_rfl) (by kernel_rfl) rfl (fun _ _ h_ => TL.off rfl rfl rfl (TL.nil h_)) ?_
        refine Plan.v 33 [34, 35, 36, 37, 38, 39, 40, 41, 42] (by kernel_rfl) (by kernel_rfl) (by kernel_rfl) (by kernel_rfl) rfl (fun _ _ h_ => TL.off rfl rfl rfl (TL.nil h_)) ?_
        refine Plan.v 34 [35, 36, 37, 38, 39, 40, 41, 42] (by kernel_rfl) (by kernel_rfl) (by kernel_rfl) (by kernel_rfl) rfl (fun _ _ h_ => TL.off rfl rfl rfl (TL.nil h_)) ?_
        refine Plan.v 35 [36, 37, 38, 39, 40, 41, 42] (by kernel_rfl) (by kernel_rfl) (by kernel_rfl) (by kernel_rfl) rfl (fun _ _ h_ => R.pkFE rfl rfl (by conv => lhs; whnf) (TL.nil h_)) ?_
        refine Plan.v 36 [37, 38, 39, 40, 41, 42] (by kernel_rfl) (by kernel_rfl) (by kernel_rfl) (by kernel_rfl) rfl (fun _ _ h_ => R.mvE rfl (by conv => lhs; whnf) (TL.nil h_)) ?_
        refine Plan.v 37 [38, 39, 40, 41, 42] (by kernel_rfl) (by kernel_rfl) (by kernel_rfl) (by kernel_rfl) rfl (fun _ _ h_ => TL.off rfl rfl rfl (TL.nil h_)) ?_
        refine Plan.v 38 [39, 40, 41, 42] (by kernel_rfl) (by kernel_rfl) (by kernel_rfl) (by kernel_rfl) rfl (fun _ _ h_ => TL.off rfl rfl rfl (TL.nil h_)) ?_
        refine Plan.v 39 [40, 41, 42] (by kernel_rfl) (by kernel_rfl) (by kernel_rfl) (by kernel_rfl) rfl (fun _ _ h_ => TL.off rfl rfl rfl (TL.nil h_)) ?_
        refine Plan.v 40 [41, 42] (by kernel_rfl) (by kernel_rfl) (by kernel_rfl) (by kernel_rfl) rfl (fun _ _ h_ => TL.off rfl rfl rfl (TL.nil h_)) ?_
        refine Plan.v 41 [42] (by kernel_rfl) (by kernel_rfl) (by kernel_rfl) (by kernel_rfl) rfl (fun _ _ h_ => R.pkFE rfl rfl (by conv => lhs; whnf) (TL.nil h_)) ?_
        refine Plan.v 42 [] (by kernel_rfl) (by kernel_rfl) (by kernel_rfl) (by kernel_rfl) rfl (fun _ _ h_ => R.asE rfl (by conv => lhs; whnf) (TL.nil h_)) ?_
        refine Plan.done (Post.thnN ?_)
        refine T.has Has.nil ?_
        refine T.ret ?_
        have hM : windroselaw14_wakes_m = false := by subst er34; subst er28; subst er24; subst er18; subst er12; rw [windroselaw14_wakes_m, LR.seq_go, LR.seq_go, LR.seq_go, LR.seq_go, LR.seq_go, if_pos g39, if_pos g43, if_pos g47, if_neg g51]
        exact fin1L (v := .bool false) [] rfl rfl (List.Sublist.refl _) ⟨rfl, by first | rw [hM] | rfl⟩
      refine Plan.v 11 [12, 13, 14, 15, 16, 17, 18, 19, 20, 21, 22, 23, 24, 25, 26, 27, 28, 29, 30, 31, 32, 33, 34, 35, 36, 37, 38, 39, 40, 41, 42] (by kernel_rfl) (by kernel_rfl) (by kernel_rfl) (by kernel_rfl) rfl (fun _ _ h_ => TL.off rfl rfl rfl (TL.nil h_)) ?_
      refine Plan.v 12 [13, 14, 15, 16, 17, 18, 19, 20, 21, 22, 23, 24, 25, 26, 27, 28, 29, 30, 31, 32, 33, 34, 35, 36, 37, 38, 39, 40, 41, 42] (by kernel_rfl) (by kernel_rfl) (by kernel_rfl) (by kernel_rfl) rfl (fun _ _ h_ => TL.off rfl rfl rfl (TL.nil h_)) ?_
      refine Plan.v 13 [14, 15, 16, 17, 18, 19, 20, 21, 22, 23, 24, 25, 26, 27, 28, 29, 30, 31, 32, 33, 34, 35, 36, 37, 38, 39, 40, 41, 42] (by kernel_rfl) (by kernel_rfl) (by kernel_rfl) (by kernel_rfl) rfl (fun _ _ h_ => R.pkFE rfl rfl (by conv => lhs; whnf) (TL.nil h_)) ?_
      refine Plan.v 14 [15, 16, 17, 18, 19, 20, 21, 22, 23, 24, 25, 26, 27, 28, 29, 30, 31, 32, 33, 34, 35, 36, 37, 38, 39, 40, 41, 42] (by kernel_rfl) (by kernel_rfl) (by kernel_rfl) (by kernel_rfl) rfl (fun _ _ h_ => R.mvE rfl (by conv => lhs; whnf) (TL.nil h_)) ?_
      refine Plan.v 15 [16, 17, 18, 19, 20, 21, 22, 23, 24, 25, 26, 27, 28, 29, 30, 31, 32, 33, 34, 35, 36, 37, 38, 39, 40, 41, 42] (by kernel_rfl) (by kernel_rfl) (by kernel_rfl) (by kernel_rfl) rfl (fun _ _ h_ => TL.off rfl rfl rfl (TL.nil h_)) ?_
      refine Plan.v 16 [17, 18, 19, 20, 21, 22, 23, 24, 25, 26, 27, 28, 29, 30, 31, 32, 33, 34, 35, 36, 37, 38, 39, 40, 41, 42] (by kernel_rfl) (by kernel_rfl) (by kernel_rfl) (by kernel_rfl) rfl (fun _ _ h_ => TL.off rfl rfl rfl (TL.nil h_)) ?_
      refine Plan.v 17 [18, 19, 20, 21, 22, 23, 24, 25, 26, 27, 28, 29, 30, 31, 32, 33, 34, 35, 36, 37, 38, 39, 40, 41, 42] (by kernel_rfl) (by kernel_rfl) (by kernel_rfl) (by kernel_rfl) rfl (fun _ _ h_ => TL.off rfl rfl rfl (TL.nil h_)) ?_
      refine Plan.v 18 [19, 20, 21, 22, 23, 24, 25, 26, 27, 28, 29, 30, 31, 32, 33, 34, 35, 36, 37, 38, 39, 40, 41, 42] (by kernel_rfl) (by kernel_rfl) (by kernel_rfl) (by kernel_rfl) rfl (fun _ _ h_ => TL.off rfl rfl rfl (TL.nil h_)) ?_
      refine Plan.v 19 [20, 21, 22, 23, 24, 25, 26, 27, 28, 29, 30, 31, 32, 33, 34, 35, 36, 37, 38, 39, 40, 41, 42] (by kernel_rfl) (by kernel_rfl) (by kernel_rfl) (by kernel_rfl) rfl (fun _ _ h_ => R.pkFE rfl rfl (by conv => lhs; whnf) (TL.nil h_)) ?_
      refine Plan.v 20 [21, 22, 23, 24, 25, 26, 27, 28, 29, 30, 31, 32, 33, 34, 35, 36, 37, 38, 39, 40, 41, 42] (by kernel_rfl) (by kernel_rfl) (by kernel_rfl) (by kernel_rfl) rfl (fun _ _ h_ => R.mvE rfl (by conv => lhs; whnf) (TL.nil h_)) ?_
      refine Plan.v 21 [22, 23, 24, 25, 26, 27, 28, 29, 30, 31, 32, 33, 34, 35, 36, 37, 38, 39, 40, 41, 42] (by kernel_rfl) (by kernel_rfl) (by kernel_rfl) (by kernel_rfl) rfl (fun _ _ h_ => TL.off rfl rfl rfl (TL.nil h_)) ?_
      refine Plan.v 22 [23, 24, 25, 26, 27, 28, 29, 30, 31, 32, 33, 34, 35, 36, 37, 38, 39, 40, 41, 42] (by kernel_rfl) (by kernel_rfl) (by kernel_rfl) (by kernel_rfl) rfl (fun _ _ h_ => TL.off rfl rfl rfl (TL.nil h_)) ?_
      refine Plan.v 23 [24, 25, 26, 27, 28, 29, 30, 31, 32, 33, 34, 35, 36, 37, 38, 39, 40, 41, 42] (by kernel_rfl) (by kernel_rfl) (by kernel_rfl) (by kernel_rfl) rfl (fun _ _ h_ => TL.off rfl rfl rfl (TL.nil h_)) ?_
      refine Plan.v 24 [25, 26, 27, 28, 29, 30, 31, 32, 33, 34, 35, 36, 37, 38, 39, 40, 41, 42] (by kernel_rfl) (by kernel_rfl) (by kernel_rfl) (by kernel_rfl) rfl (fun _ _ h_ => TL.off rfl rfl rfl (TL.nil h_)) ?_
      refine Plan.v 25 [26, 27, 28, 29, 30, 31, 32, 33, 34, 35, 36, 37, 38, 39, 40, 41, 42] (by kernel_rfl) (by kernel_rfl) (by kernel_rfl) (by kernel_rfl) rfl (fun _ _ h_ => TL.off rfl rfl rfl (TL.nil h_)) ?_
      refine Plan.v 26 [27, 28, 29, 30, 31, 32, 33, 34, 35, 36, 37, 38, 39, 40, 41, 42] (by kernel_rfl) (by kernel_rfl) (by kernel_rfl) (by kernel_rfl) rfl (fun _ _ h_ => TL.off rfl rfl rfl (TL.nil h_)) ?_
      refine Plan.v 27 [28, 29, 30, 31, 32, 33, 34, 35, 36, 37, 38, 39, 40, 41, 42] (by kernel_rfl) (by kernel_rfl) (by kernel_rfl) (by kernel_rfl) rfl (fun _ _ h_ => TL.off rfl rfl rfl (TL.nil h_)) ?_
      refine Plan.v 28 [29, 30, 31, 32, 33, 34, 35, 36, 37, 38, 39, 40, 41, 42] (by kernel_rfl) (by kernel_rfl) (by kernel_rfl) (by kernel_rfl) rfl (fun _ _ h_ => R.pkFE rfl rfl (by conv => lhs; whnf) (TL.nil h_)) ?_
      refine Plan.v 29 [30, 31, 32, 33, 34, 35, 36, 37, 38, 39, 40, 41, 42] (by kernel_rfl) (by kernel_rfl) (by kernel_rfl) (by kernel_rfl) rfl (fun _ _ h_ => R.mvE rfl (by conv => lhs; whnf) (TL.nil h_)) ?_
      refine Plan.v 30 [31, 32, 33, 34, 35, 36, 37, 38, 39, 40, 41, 42] (by kernel_rfl) (by kernel_rfl) (by kernel_rfl) (by kernel_rfl) rfl (fun _ _ h_ => TL.off rfl rfl rfl (TL.nil h_)) ?_
      refine Plan.v 31 [32, 33, 34, 35, 36, 37, 38, 39, 40, 41, 42] (by kernel_rfl) (by kernel_rfl) (by kernel_rfl) (by kernel_rfl) rfl (fun _ _ h_ => TL.off rfl rfl rfl (TL.nil h_)) ?_
      refine Plan.v 32 [33, 34, 35, 36, 37, 38, 39, 40, 41, 42] (by kernel_rfl) (by kernel_rfl) (by kernel_rfl) (by kernel_rfl) rfl (fun _ _ h_ => TL.off rfl rfl rfl (TL.nil h_)) ?_
      refine Plan.v 33 [34, 35, 36, 37, 38, 39, 40, 41, 42] (by kernel_rfl) (by kernel_rfl) (by kernel_rfl) (by kernel_rfl) rfl (fun _ _ h_ => TL.off rfl rfl rfl (TL.nil h_)) ?_
      refine Plan.v 34 [35, 36, 37, 38, 39, 40, 41, 42] (by kernel_rfl) (by kernel_rfl) (by kernel_rfl) (by kernel_rfl) rfl (fun _ _ h_ => TL.off rfl rfl rfl (TL.nil h_)) ?_
      refine Plan.v 35 [36, 37, 38, 39, 40, 41, 42] (by kernel_rfl) (by kernel_rfl) (by kernel_rfl) (by kernel_rfl) rfl (fun _ _ h_ => R.pkFE rfl rfl (by conv => lhs; whnf) (TL.nil h_)) ?_
      refine Plan.v 36 [37, 38, 39, 40, 41, 42] (by kernel_rfl) (by kernel_rfl) (by kernel_rfl) (by kernel_rfl) rfl (fun _ _ h_ => R.mvE rfl (by conv => lhs; whnf) (TL.nil h_)) ?_
      refine Plan.v 37 [38, 39, 40, 41, 42] (by kernel_rfl) (by kernel_rfl) (by kernel_rfl) (by kernel_rfl) rfl (fun _ _ h_ => TL.off rfl rfl rfl (TL.nil h_)) ?_
      refine Plan.v 38 [39, 40, 41, 42] (by kernel_rfl) (by kernel_rfl) (by kernel_rfl) (by kernel_rfl) rfl (fun _ _ h_ => TL.off rfl rfl rfl (TL.nil h_)) ?_
      refine Plan.v 39 [40, 41, 42] (by kernel_rfl) (by kernel_rfl) (by kernel_rfl) (by kernel_rfl) rfl (fun _ _ h_ => TL.off rfl rfl rfl (TL.nil h_)) ?_
      refine Plan.v 40 [41, 42] (by kernel_rfl) (by kernel_rfl) (by kernel_rfl) (by kernel_rfl) rfl (fun _ _ h_ => TL.off rfl rfl rfl (TL.nil h_)) ?_
      refine Plan.v 41 [42] (by kernel_rfl) (by kernel_rfl) (by kernel_rfl) (by kernel_rfl) rfl (fun _ _ h_ => R.pkFE rfl rfl (by conv => lhs; whnf) (TL.nil h_)) ?_
      refine Plan.v 42 [] (by kernel_rfl) (by kernel_rfl) (by kernel_rfl) (by kernel_rfl) rfl (fun _ _ h_ => R.asE rfl (by conv => lhs; whnf) (TL.nil h_)) ?_
      refine Plan.done (Post.thnN ?_)
      refine T.has Has.nil ?_
      refine T.ret ?_
      have hM : windroselaw14_wakes_m = false := by subst er34; subst er28; subst er24; subst er18; subst er12; rw [windroselaw14_wakes_m, LR.seq_go, LR.seq_go, LR.seq_go, LR.seq_go, LR.seq_go, if_pos g39, if_pos g43, if_neg g47]
      exact fin1L (v := .bool false) [] rfl rfl (List.Sublist.refl _) ⟨rfl, by first | rw [hM] | rfl⟩
    refine Plan.v 7 [8, 9, 10, 11, 12, 13, 14, 15, 16, 17, 18, 19, 20, 21, 22, 23, 24, 25, 26, 27, 28, 29, 30, 31, 32, 33, 34, 35, 36, 37, 38, 39, 40, 41, 42] (by kernel_rfl) (by kernel_rfl) (by kernel_rfl) (by kernel_rfl) rfl (fun _ _ h_ => TL.off rfl rfl rfl (TL.nil h_)) ?_
    refine Plan.v 8 [9, 10, 11, 12, 13, 14, 15, 16, 17, 18, 19, 20, 21, 22, 23, 24, 25, 26, 27, 28, 29, 30, 31, 32, 33, 34, 35, 36, 37, 38, 39, 40, 41, 42] (by kernel_rfl) (by kernel_rfl) (by kernel_rfl) (by kernel_rfl) rfl (fun _ _ h_ => TL.off rfl rfl rfl (TL.nil h_)) ?_
    refine Plan.v 9 [10, 11, 12, 13, 14, 15, 16, 17, 18, 19, 20, 21, 22, 23, 24, 25, 26, 27, 28, 29, 30, 31, 32, 33, 34, 35, 36, 37, 38, 39, 40, 41, 42] (by kernel_rfl) (by kernel_rfl) (by kernel_rfl) (by kernel_rfl) rfl (fun _ _ h_ => R.pkFE rfl rfl (by conv => lhs; whnf) (TL.nil h_)) ?_
    refine Plan.v 10 [11, 12, 13, 14, 15, 16, 17, 18, 19, 20, 21, 22, 23, 24, 25, 26, 27, 28, 29, 30, 31, 32, 33, 34, 35, 36, 37, 38, 39, 40, 41, 42] (by kernel_rfl) (by kernel_rfl) (by kernel_rfl) (by kernel_rfl) rfl (fun _ _ h_ => R.mvE rfl (by conv => lhs; whnf) (TL.nil h_)) ?_
    refine Plan.v 11 [12, 13, 14, 15, 16, 17, 18, 19, 20, 21, 22, 23, 24, 25, 26, 27, 28, 29, 30, 31, 32, 33, 34, 35, 36, 37, 38, 39, 40, 41, 42] (by kernel_rfl) (by kernel_rfl) (by kernel_rfl) (by kernel_rfl) rfl (fun _ _ h_ => TL.off rfl rfl rfl (TL.nil h_)) ?_
    refine Plan.v 12 [13, 14, 15, 16, 17, 18, 19, 20, 21, 22, 23, 24, 25, 26, 27, 28, 29, 30, 31, 32, 33, 34, 35, 36, 37, 38, 39, 40, 41, 42] (by kernel_rfl) (by kernel_rfl) (by kernel_rfl) (by kernel_rfl) rfl (fun _ _ h_ => TL.off rfl rfl rfl (TL.nil h_)) ?_
    refine Plan.v 13 [14, 15, 16, 17, 18, 19, 20, 21, 22, 23, 24, 25, 26, 27, 28, 29, 30, 31, 32, 33, 34, 35, 36, 37, 38, 39, 40, 41, 42] (by kernel_rfl) (by kernel_rfl) (by kernel_rfl) (by kernel_rfl) rfl (fun _ _ h_ => R.pkFE rfl rfl (by conv => lhs; whnf) (TL.nil h_)) ?_
    refine Plan.v 14 [15, 16, 17, 18, 19, 20, 21, 22, 23, 24, 25, 26, 27, 28, 29, 30, 31, 32, 33, 34, 35, 36, 37, 38, 39, 40, 41, 42] (by kernel_rfl) (by kernel_rfl) (by kernel_rfl) (by kernel_rfl) rfl (fun _ _ h_ => R.mvE rfl (by conv => lhs; whnf) (TL.nil h_)) ?_
    refine Plan.v 15 [16, 17, 18, 19, 20, 21, 22, 23, 24, 25, 26, 27, 28, 29, 30, 31, 32, 33, 34, 35, 36, 37, 38, 39, 40, 41, 42] (by kernel_rfl) (by kernel_rfl) (by kernel_rfl) (by kernel_rfl) rfl (fun _ _ h_ => TL.off rfl rfl rfl (TL.nil h_)) ?_
    refine Plan.v 16 [17, 18, 19, 20, 21, 22, 23, 24, 25, 26, 27, 28, 29, 30, 31, 32, 33, 34, 35, 36, 37, 38, 39, 40, 41, 42] (by kernel_rfl) (by kernel_rfl) (by kernel_rfl) (by kernel_rfl) rfl (fun _ _ h_ => TL.off rfl rfl rfl (TL.nil h_)) ?_
    refine Plan.v 17 [18, 19, 20, 21, 22, 23, 24, 25, 26, 27, 28, 29, 30, 31, 32, 33, 34, 35, 36, 37, 38, 39, 40, 41, 42] (by kernel_rfl) (by kernel_rfl) (by kernel_rfl) (by kernel_rfl) rfl (fun _ _ h_ => TL.off rfl rfl rfl (TL.nil h_)) ?_
    refine Plan.v 18 [19, 20, 21, 22, 23, 24, 25, 26, 27, 28, 29, 30, 31, 32, 33, 34, 35, 36, 37, 38, 39, 40, 41, 42] (by kernel_rfl) (by kernel_rfl) (by kernel_rfl) (by kernel_rfl) rfl (fun _ _ h_ => TL.off rfl rfl rfl (TL.nil h_)) ?_
    refine Plan.v 19 [20, 21, 22, 23, 24, 25, 26, 27, 28, 29, 30, 31, 32, 33, 34, 35, 36, 37, 38, 39, 40, 41, 42] (by kernel_rfl) (by kernel_rfl) (by kernel_rfl) (by kernel_rfl) rfl (fun _ _ h_ => R.pkFE rfl rfl (by conv => lhs; whnf) (TL.nil h_)) ?_
    refine Plan.v 20 [21, 22, 23, 24, 25, 26, 27, 28, 29, 30, 31, 32, 33, 34, 35, 36, 37, 38, 39, 40, 41, 42] (by kernel_rfl) (by kernel_rfl) (by kernel_rfl) (by kernel_rfl) rfl (fun _ _ h_ => R.mvE rfl (by conv => lhs; whnf) (TL.nil h_)) ?_
    refine Plan.v 21 [22, 23, 24, 25, 26, 27, 28, 29, 30, 31, 32, 33, 34, 35, 36, 37, 38, 39, 40, 41, 42] (by kernel_rfl) (by kernel_rfl) (by kernel_rfl) (by kernel_rfl) rfl (fun _ _ h_ => TL.off rfl rfl rfl (TL.nil h_)) ?_
    refine Plan.v 22 [23, 24, 25, 26, 27, 28, 29, 30, 31, 32, 33, 34, 35, 36, 37, 38, 39, 40, 41, 42] (by kernel_rfl) (by kernel_rfl) (by kernel_rfl) (by kernel_rfl) rfl (fun _ _ h_ => TL.off rfl rfl rfl (TL.nil h_)) ?_
    refine Plan.v 23 [24, 25, 26, 27, 28, 29, 30, 31, 32, 33, 34, 35, 36, 37, 38, 39, 40, 41, 42] (by kernel_rfl) (by kernel_rfl) (by kernel_rfl) (by kernel_rfl) rfl (fun _ _ h_ => TL.off rfl rfl rfl (TL.nil h_)) ?_
    refine Plan.v 24 [25, 26, 27, 28, 29, 30, 31, 32, 33, 34, 35, 36, 37, 38, 39, 40, 41, 42] (by kernel_rfl) (by kernel_rfl) (by kernel_rfl) (by kernel_rfl) rfl (fun _ _ h_ => TL.off rfl rfl rfl (TL.nil h_)) ?_
    refine Plan.v 25 [26, 27, 28, 29, 30, 31, 32, 33, 34, 35, 36, 37, 38, 39, 40, 41, 42] (by kernel_rfl) (by kernel_rfl) (by kernel_rfl) (by kernel_rfl) rfl (fun _ _ h_ => TL.off rfl rfl rfl (TL.nil h_)) ?_
    refine Plan.v 26 [27, 28, 29, 30, 31, 32, 33, 34, 35, 36, 37, 38, 39, 40, 41, 42] (by kernel_rfl) (by kernel_rfl) (by kernel_rfl) (by kernel_rfl) rfl (fun _ _ h_ => TL.off rfl rfl rfl (TL.nil h_)) ?_
    refine Plan.v 27 [28, 29, 30, 31, 32, 33, 34, 35, 36, 37, 38, 39, 40, 41, 42] (by kernel_rfl) (by kernel_rfl) (by kernel_rfl) (by kernel_rfl) rfl (fun _ _ h_ => TL.off rfl rfl rfl (TL.nil h_)) ?_
    refine Plan.v 28 [29, 30, 31, 32, 33, 34, 35, 36, 37, 38, 39, 40, 41, 42] (by kernel_rfl) (by kernel_rfl) (by kernel_rfl) (by kernel_rfl) rfl (fun _ _ h_ => R.pkFE rfl rfl (by conv => lhs; whnf) (TL.nil h_)) ?_
    refine Plan.v 29 [30, 31, 32, 33, 34, 35, 36, 37, 38, 39, 40, 41, 42] (by kernel_rfl) (by kernel_rfl) (by kernel_rfl) (by kernel_rfl) rfl (fun _ _ h_ => R.mvE rfl (by conv => lhs; whnf) (TL.nil h_)) ?_
    refine Plan.v 30 [31, 32, 33, 34, 35, 36, 37, 38, 39, 40, 41, 42] (by kernel_rfl) (by kernel_rfl) (by kernel_rfl) (by kernel_rfl) rfl (fun _ _ h_ => TL.off rfl rfl rfl (TL.nil h_)) ?_
    refine Plan.v 31 [32, 33, 34, 35, 36, 37, 38, 39, 40, 41, 42] (by kernel_rfl) (by kernel_rfl) (by kernel_rfl) (by kernel_rfl) rfl (fun _ _ h_ => TL.off rfl rfl rfl (TL.nil h_)) ?_
    refine Plan.v 32 [33, 34, 35, 36, 37, 38, 39, 40, 41, 42] (by kernel_rfl) (by kernel_rfl) (by kernel_rfl) (by kernel_rfl) rfl (fun _ _ h_ => TL.off rfl rfl rfl (TL.nil h_)) ?_
    refine Plan.v 33 [34, 35, 36, 37, 38, 39, 40, 41, 42] (by kernel_rfl) (by kernel_rfl) (by kernel_rfl) (by kernel_rfl) rfl (fun _ _ h_ => TL.off rfl rfl rfl (TL.nil h_)) ?_
    refine Plan.v 34 [35, 36, 37, 38, 39, 40, 41, 42] (by kernel_rfl) (by kernel_rfl) (by kernel_rfl) (by kernel_rfl) rfl (fun _ _ h_ => TL.off rfl rfl rfl (TL.nil h_)) ?_
    refine Plan.v 35 [36, 37, 38, 39, 40, 41, 42] (by kernel_rfl) (by kernel_rfl) (by kernel_rfl) (by kernel_rfl) rfl (fun _ _ h_ => R.pkFE rfl rfl (by conv => lhs; whnf) (TL.nil h_)) ?_
    refine Plan.v 36 [37, 38, 39, 40, 41, 42] (by kernel_rfl) (by kernel_rfl) (by kernel_rfl) (by kernel_rfl) rfl (fun _ _ h_ => R.mvE rfl (by conv => lhs; whnf) (TL.nil h_)) ?_
    refine Plan.v 37 [38, 39, 40, 41, 42] (by kernel_rfl) (by kernel_rfl) (by kernel_rfl) (by kernel_rfl) rfl (fun _ _ h_ => TL.off rfl rfl rfl (TL.nil h_)) ?_
    refine Plan.v 38 [39, 40, 41, 42] (by kernel_rfl) (by kernel_rfl) (by kernel_rfl) (by kernel_rfl) rfl (fun _ _ h_ => TL.off rfl rfl rfl (TL.nil h_)) ?_
    refine Plan.v 39 [40, 41, 42] (by kernel_rfl) (by kernel_rfl) (by kernel_rfl) (by kernel_rfl) rfl (fun _ _ h_ => TL.off rfl rfl rfl (TL.nil h_)) ?_
    refine Plan.v 40 [41, 42] (by kernel_rfl) (by kernel_rfl) (by kernel_rfl) (by kernel_rfl) rfl (fun _ _ h_ => TL.off rfl rfl rfl (TL.nil h_)) ?_
    refine Plan.v 41 [42] (by kernel_rfl) (by kernel_rfl) (by kernel_rfl) (by kernel_rfl) rfl (fun _ _ h_ => R.pkFE rfl rfl (by conv => lhs; whnf) (TL.nil h_)) ?_
    refine Plan.v 42 [] (by kernel_rfl) (by kernel_rfl) (by kernel_rfl) (by kernel_rfl) rfl (fun _ _ h_ => R.asE rfl (by conv => lhs; whnf) (TL.nil h_)) ?_
    refine Plan.done (Post.thnN ?_)
    refine T.has Has.nil ?_
    refine T.ret ?_
    have hM : windroselaw14_wakes_m = false := by subst er34; subst er28; subst er24; subst er18; subst er12; rw [windroselaw14_wakes_m, LR.seq_go, LR.seq_go, LR.seq_go, LR.seq_go, LR.seq_go, if_pos g39, if_neg g43]
    exact fin1L (v := .bool false) [] rfl rfl (List.Sublist.refl _) ⟨rfl, by first | rw [hM] | rfl⟩
  refine Plan.v 3 [4, 5, 6, 7, 8, 9, 10, 11, 12, 13, 14, 15, 16, 17, 18, 19, 20, 21, 22, 23, 24, 25, 26, 27, 28, 29, 30, 31, 32, 33, 34, 35, 36, 37, 38, 39, 40, 41, 42] (by kernel_rfl) (by kernel_rfl) (by kernel_rfl) (by kernel_rfl) rfl (fun _ _ h_ => TL.off rfl rfl rfl (TL.nil h_)) ?_
  refine Plan.v 4 [5, 6, 7, 8, 9, 10, 11, 12, 13, 14, 15, 16, 17, 18, 19, 20, 21, 22, 23, 24, 25, 26, 27, 28, 29, 30, 31, 32, 33, 34, 35, 36, 37, 38, 39, 40, 41, 42] (by kernel_rfl) (by kernel_rfl) (by kernel_rfl) (by kernel_rfl) rfl (fun _ _ h_ => TL.off rfl rfl rfl (TL.nil h_)) ?_
  refine Plan.v 5 [6, 7, 8, 9, 10, 11, 12, 13, 14, 15, 16, 17, 18, 19, 20, 21, 22, 23, 24, 25, 26, 27, 28, 29, 30, 31, 32, 33, 34, 35, 36, 37, 38, 39, 40, 41, 42] (by kernel_rfl) (by kernel_rfl) (by kernel_rfl) (by kernel_rfl) rfl (fun _ _ h_ => R.pkFE rfl rfl (by conv => lhs; whnf) (TL.nil h_)) ?_
  refine Plan.v 6 [7, 8, 9, 10, 11, 12, 13, 14, 15, 16, 17, 18, 19, 20, 21, 22, 23, 24, 25, 26, 27, 28, 29, 30, 31, 32, 33, 34, 35, 36, 37, 38, 39, 40, 41, 42] (by kernel_rfl) (by kernel_rfl) (by kernel_rfl) (by kernel_rfl) rfl (fun _ _ h_ => R.mvE rfl (by conv => lhs; whnf) (TL.nil h_)) ?_
  refine Plan.v 7 [8, 9, 10, 11, 12, 13, 14, 15, 16, 17, 18, 19, 20, 21, 22, 23, 24, 25, 26, 27, 28, 29, 30, 31, 32, 33, 34, 35, 36, 37, 38, 39, 40, 41, 42] (by kernel_rfl) (by kernel_rfl) (by kernel_rfl) (by kernel_rfl) rfl (fun _ _ h_ => TL.off rfl rfl rfl (TL.nil h_)) ?_
  refine Plan.v 8 [9, 10, 11, 12, 13, 14, 15, 16, 17, 18, 19, 20, 21, 22, 23, 24, 25, 26, 27, 28, 29, 30, 31, 32, 33, 34, 35, 36, 37, 38, 39, 40, 41, 42] (by kernel_rfl) (by kernel_rfl) (by kernel_rfl) (by kernel_rfl) rfl (fun _ _ h_ => TL.off rfl rfl rfl (TL.nil h_)) ?_
  refine Plan.v 9 [10, 11, 12, 13, 14, 15, 16, 17, 18, 19, 20, 21, 22, 23, 24, 25, 26, 27, 28, 29, 30, 31, 32, 33, 34, 35, 36, 37, 38, 39, 40, 41, 42] (by kernel_rfl) (by kernel_rfl) (by kernel_rfl) (by kernel_rfl) rfl (fun _ _ h_ => R.pkFE rfl rfl (by conv => lhs; whnf) (TL.nil h_)) ?_
  refine Plan.v 10 [11, 12, 13, 14, 15, 16, 17, 18, 19, 20, 21, 22, 23, 24, 25, 26, 27, 28, 29, 30, 31, 32, 33, 34, 35, 36, 37, 38, 39, 40, 41, 42] (by kernel_rfl) (by kernel_rfl) (by kernel_rfl) (by kernel_rfl) rfl (fun _ _ h_ => R.mvE rfl (by conv => lhs; whnf) (TL.nil h_)) ?_
  refine Plan.v 11 [12, 13, 14, 15, 16, 17, 18, 19, 20, 21, 22, 23, 24, 25, 26, 27, 28, 29, 30, 31, 32, 33, 34, 35, 36, 37, 38, 39, 40, 41, 42] (by kernel_rfl) (by kernel_rfl) (by kernel_rfl) (by kernel_rfl) rfl (fun _ _ h_ => TL.off rfl rfl rfl (TL.nil h_)) ?_
  refine Plan.v 12 [13, 14, 15, 16, 17, 18, 19, 20, 21, 22, 23, 24, 25, 26, 27, 28, 29, 30, 31, 32, 33, 34, 35, 36, 37, 38, 39, 40, 41, 42] (by kernel_rfl) (by kernel_rfl) (by kernel_rfl) (by kernel_rfl) rfl (fun _ _ h_ => TL.off rfl rfl rfl (TL.nil h_)) ?_
  refine Plan.v 13 [14, 15, 16, 17, 18, 19, 20, 21, 22, 23, 24, 25, 26, 27, 28, 29, 30, 31, 32, 33, 34, 35, 36, 37, 38, 39, 40, 41, 42] (by kernel_rfl) (by kernel_rfl) (by kernel_rfl) (by kernel_rfl) rfl (fun _ _ h_ => R.pkFE rfl rfl (by conv => lhs; whnf) (TL.nil h_)) ?_
  refine Plan.v 14 [15, 16, 17, 18, 19, 20, 21, 22, 23, 24, 25, 26, 27, 28, 29, 30, 31, 32, 33, 34, 35, 36, 37, 38, 39, 40, 41, 42] (by kernel_rfl) (by kernel_rfl) (by kernel_rfl) (by kernel_rfl) rfl (fun _ _ h_ => R.mvE rfl (by conv => lhs; whnf) (TL.nil h_)) ?_
  refine Plan.v 15 [16, 17, 18, 19, 20, 21, 22, 23, 24, 25, 26, 27, 28, 29, 30, 31, 32, 33, 34, 35, 36, 37, 38, 39, 40, 41, 42] (by kernel_rfl) (by kernel_rfl) (by kernel_rfl) (by kernel_rfl) rfl (fun _ _ h_ => TL.off rfl rfl rfl (TL.nil h_)) ?_
  refine Plan.v 16 [17, 18, 19, 20, 21, 22, 23, 24, 25, 26, 27, 28, 29, 30, 31, 32, 33, 34, 35, 36, 37, 38, 39, 40, 41, 42] (by kernel_rfl) (by kernel_rfl) (by kernel_rfl) (by kernel_rfl) rfl (fun _ _ h_ => TL.off rfl rfl rfl (TL.nil h_)) ?_
  refine Plan.v 17 [18, 19, 20, 21, 22, 23, 24, 25, 26, 27, 28, 29, 30, 31, 32, 33, 34, 35, 36, 37, 38, 39, 40, 41, 42] (by kernel_rfl) (by kernel_rfl) (by kernel_rfl) (by kernel_rfl) rfl (fun _ _ h_ => TL.off rfl rfl rfl (TL.nil h_)) ?_
  refine Plan.v 18 [19, 20, 21, 22, 23, 24, 25, 26, 27, 28, 29, 30, 31, 32, 33, 34, 35, 36, 37, 38, 39, 40, 41, 42] (by kernel_rfl) (by kernel_rfl) (by kernel_rfl) (by kernel_rfl) rfl (fun _ _ h_ => TL.off rfl rfl rfl (TL.nil h_)) ?_
  refine Plan.v 19 [20, 21, 22, 23, 24, 25, 26, 27, 28, 29, 30, 31, 32, 33, 34, 35, 36, 37, 38, 39, 40, 41, 42] (by kernel_rfl) (by kernel_rfl) (by kernel_rfl) (by kernel_rfl) rfl (fun _ _ h_ => R.pkFE rfl rfl (by conv => lhs; whnf) (TL.nil h_)) ?_
  refine Plan.v 20 [21, 22, 23, 24, 25, 26, 27, 28, 29, 30, 31, 32, 33, 34, 35, 36, 37, 38, 39, 40, 41, 42] (by kernel_rfl) (by kernel_rfl) (by kernel_rfl) (by kernel_rfl) rfl (fun _ _ h_ => R.mvE rfl (by conv => lhs; whnf) (TL.nil h_)) ?_
  refine Plan.v 21 [22, 23, 24, 25, 26, 27, 28, 29, 30, 31, 32, 33, 34, 35, 36, 37, 38, 39, 40, 41, 42] (by kernel_rfl) (by kernel_rfl) (by kernel_rfl) (by kernel_rfl) rfl (fun _ _ h_ => TL.off rfl rfl rfl (TL.nil h_)) ?_
  refine Plan.v 22 [23, 24, 25, 26, 27, 28, 29, 30, 31, 32, 33, 34, 35, 36, 37, 38, 39, 40, 41, 42] (by kernel_rfl) (by kernel_rfl) (by kernel_rfl) (by kernel_rfl) rfl (fun _ _ h_ => TL.off rfl rfl rfl (TL.nil h_)) ?_
  refine Plan.v 23 [24, 25, 26, 27, 28, 29, 30, 31, 32, 33, 34, 35, 36, 37, 38, 39, 40, 41, 42] (by kernel_rfl) (by kernel_rfl) (by kernel_rfl) (by kernel_rfl) rfl (fun _ _ h_ => TL.off rfl rfl rfl (TL.nil h_)) ?_
  refine Plan.v 24 [25, 26, 27, 28, 29, 30, 31, 32, 33, 34, 35, 36, 37, 38, 39, 40, 41, 42] (by kernel_rfl) (by kernel_rfl) (by kernel_rfl) (by kernel_rfl) rfl (fun _ _ h_ => TL.off rfl rfl rfl (TL.nil h_)) ?_
  refine Plan.v 25 [26, 27, 28, 29, 30, 31, 32, 33, 34, 35, 36, 37, 38, 39, 40, 41, 42] (by kernel_rfl) (by kernel_rfl) (by kernel_rfl) (by kernel_rfl) rfl (fun _ _ h_ => TL.off rfl rfl rfl (TL.nil h_)) ?_
  refine Plan.v 26 [27, 28, 29, 30, 31, 32, 33, 34, 35, 36, 37, 38, 39, 40, 41, 42] (by kernel_rfl) (by kernel_rfl) (by kernel_rfl) (by kernel_rfl) rfl (fun _ _ h_ => TL.off rfl rfl rfl (TL.nil h_)) ?_
  refine Plan.v 27 [28, 29, 30, 31, 32, 33, 34, 35, 36, 37, 38, 39, 40, 41, 42] (by kernel_rfl) (by kernel_rfl) (by kernel_rfl) (by kernel_rfl) rfl (fun _ _ h_ => TL.off rfl rfl rfl (TL.nil h_)) ?_
  refine Plan.v 28 [29, 30, 31, 32, 33, 34, 35, 36, 37, 38, 39, 40, 41, 42] (by kernel_rfl) (by kernel_rfl) (by kernel_rfl) (by kernel_rfl) rfl (fun _ _ h_ => R.pkFE rfl rfl (by conv => lhs; whnf) (TL.nil h_)) ?_
  refine Plan.v 29 [30, 31, 32, 33, 34, 35, 36, 37, 38, 39, 40, 41, 42] (by kernel_rfl) (by kernel_rfl) (by kernel_rfl) (by kernel_rfl) rfl (fun _ _ h_ => R.mvE rfl (by conv => lhs; whnf) (TL.nil h_)) ?_
  refine Plan.v 30 [31, 32, 33, 34, 35, 36, 37, 38, 39, 40, 41, 42] (by kernel_rfl) (by kernel_rfl) (by kernel_rfl) (by kernel_rfl) rfl (fun _ _ h_ => TL.off rfl rfl rfl (TL.nil h_)) ?_
  refine Plan.v 31 [32, 33, 34, 35, 36, 37, 38, 39, 40, 41, 42] (by kernel_rfl) (by kernel_rfl) (by kernel_rfl) (by kernel_rfl) rfl (fun _ _ h_ => TL.off rfl rfl rfl (TL.nil h_)) ?_
  refine Plan.v 32 [33, 34, 35, 36, 37, 38, 39, 40, 41, 42] (by kernel_rfl) (by kernel_rfl) (by kernel_rfl) (by kernel_rfl) rfl (fun _ _ h_ => TL.off rfl rfl rfl (TL.nil h_)) ?_
  refine Plan.v 33 [34, 35, 36, 37, 38, 39, 40, 41, 42] (by kernel_rfl) (by kernel_rfl) (by kernel_rfl) (by kernel_rfl) rfl (fun _ _ h_ => TL.off rfl rfl rfl (TL.nil h_)) ?_
  refine Plan.v 34 [35, 36, 37, 38, 39, 40, 41, 42] (by kernel_rfl) (by kernel_rfl) (by kernel_rfl) (by kernel_rfl) rfl (fun _ _ h_ => TL.off rfl rfl rfl (TL.nil h_)) ?_
  refine Plan.v 35 [36, 37, 38, 39, 40, 41, 42] (by kernel_rfl) (by kernel_rfl) (by kernel_rfl) (by kernel_rfl) rfl (fun _ _ h_ => R.pkFE rfl rfl (by conv => lhs; whnf) (TL.nil h_)) ?_
  refine Plan.v 36 [37, 38, 39, 40, 41, 42] (by kernel_rfl) (by kernel_rfl) (by kernel_rfl) (by kernel_rfl) rfl (fun _ _ h_ => R.mvE rfl (by conv => lhs; whnf) (TL.nil h_)) ?_
  refine Plan.v 37 [38, 39, 40, 41, 42] (by kernel_rfl) (by kernel_rfl) (by kernel_rfl) (by kernel_rfl) rfl (fun _ _ h_ => TL.off rfl rfl rfl (TL.nil h_)) ?_
  refine Plan.v 38 [39, 40, 41, 42] (by kernel_rfl) (by kernel_rfl) (by kernel_rfl) (by kernel_rfl) rfl (fun _ _ h_ => TL.off rfl rfl rfl (TL.nil h_)) ?_
  refine Plan.v 39 [40, 41, 42] (by kernel_rfl) (by kernel_rfl) (by kernel_rfl) (by kernel_rfl) rfl (fun _ _ h_ => TL.off rfl rfl rfl (TL.nil h_)) ?_
  refine Plan.v 40 [41, 42] (by kernel_rfl) (by kernel_rfl) (by kernel_rfl) (by kernel_rfl) rfl (fun _ _ h_ => TL.off rfl rfl rfl (TL.nil h_)) ?_
  refine Plan.v 41 [42] (by kernel_rfl) (by kernel_rfl) (by kernel_rfl) (by kernel_rfl) rfl (fun _ _ h_ => R.pkFE rfl rfl (by conv => lhs; whnf) (TL.nil h_)) ?_
  refine Plan.v 42 [] (by kernel_rfl) (by kernel_rfl) (by kernel_rfl) (by kernel_rfl) rfl (fun _ _ h_ => R.asE rfl (by conv => lhs; whnf) (TL.nil h_)) ?_
  refine Plan.done (Post.thnN ?_)
  refine T.has Has.nil ?_
  refine T.ret ?_
  have hM : windroselaw14_wakes_m = false := by subst er34; subst er28; subst er24; subst er18; subst er12; rw [windroselaw14_wakes_m, LR.seq_go, LR.seq_go, LR.seq_go, LR.seq_go, LR.seq_go, if_neg g39]
  exact fin1L (v := .bool false) [] rfl rfl (List.Sublist.refl _) ⟨rfl, by first | rw [hM] | rfl⟩
end Go.SX

set_option linter.unusedVariables false
set_option linter.unusedSimpArgs false
namespace Go.SX
open Go
theorem w14_true : windroselaw14_wakes_m = true := by kernel_rfl
theorem cmp_Id_eq (x y : Int) : cmp_Compare_Id_m x y = 0 ↔ x = y := by
  unfold cmp_Compare_Id_m cmp_isNaN_Id_m
  simp only [ne_eq, not_true_eq_false, decide_false, Bool.false_eq_true, if_false]
  by_cases h : x < y
  · rw [if_pos h]; exact ⟨fun q => (by cases q), fun q => by omega⟩
  · rw [if_neg h]
    by_cases h2 : y < x
    · rw [if_pos h2]; exact ⟨fun q => (by cases q), fun q => by omega⟩
    · rw [if_neg h2]; exact ⟨fun _ => by omega, fun _ => rfl⟩
/-- the ids, in their order -/
def idAt (x : Ix) (k : Nat) : Int := (x.map Prod.fst).getD k 0
theorem idAt_lt {x : Ix} (hs : (x.map Prod.fst).Pairwise (· < ·)) {i j : Nat} (h : i < j) (hj : j < x.length) : idAt x i < idAt x j := by
  unfold idAt
  have hj' : j < (x.map Prod.fst).length := by rw [List.length_map]; exact hj
  rw [List.getD_eq_getElem?_getD, List.getD_eq_getElem?_getD, List.getElem?_eq_getElem hj', List.getElem?_eq_getElem (by omega : i < (x.map Prod.fst).length)]
  exact (List.pairwise_iff_getElem.1 hs) i j (by omega) hj' h
theorem bf_lb (x : Ix) (t : Int) (tt : List Int) (hs : (x.map Prod.fst).Pairwise (· < ·)) (hl : x.length ≤ 2000000) : ∀ (k m i j : Nat), j - i ≤ k → k < m → i ≤ j → j ≤ x.length →
    (∀ q, q < i → idAt x q < t) → (∀ q, j ≤ q → q < x.length → t ≤ idAt x q) →
    ∃ n o : Nat, slices_BinarySearchFunc_Listed_l1 x (t, tt) (fun z0 z1 => index_compare_m z0 z1) m ((i : Int), (j : Int)) = ((n : Int), (o : Int)) ∧ n ≤ x.length ∧ (∀ q, q < n → idAt x q < t) ∧ (∀ q, n ≤ q → q < x.length → t ≤ idAt x q)
  | k, 0, i, j, _, h, _, _, _, _ => by omega
  | k, m + 1, i, j, h1, h2, h3, h4, h5, h6 => by
    simp only [slices_BinarySearchFunc_Listed_l1]
    by_cases h : i < j
    · rw [if_pos (show (i : Int) < (j : Int) by omega), midI (i := (i : Int)) (j := (j : Int)) (by omega) (by omega) (by omega)]
      obtain ⟨d, hd⟩ : ∃ d : Nat, d = (i + j) / 2 := ⟨_, rfl⟩
      have e1 : ((i : Int) + (j : Int)) / 2 = (d : Int) := by omega
      have d1 : i ≤ d := by omega
      have d2 : d < j := by omega
      rw [e1, Int.toNat_natCast]
      have hc : index_compare_m (x.getD d (0, [])) (t, tt) < 0 ↔ idAt x d < t := by
        unfold index_compare_m idAt
        rw [cmp_Id_lt, getD_fst]
      cases k with
      | zero => omega
      | succ k =>
        by_cases q : idAt x d < t
        · rw [if_pos (hc.2 q), show (d : Int) + 1 = ((d + 1 : Nat) : Int) by omega]
          refine bf_lb x t tt hs hl k m (d + 1) j (by omega) (by omega) (by omega) h4 (fun z hz => ?_) h6
          rcases Nat.lt_or_ge z d with e | e
          · exact Int.lt_trans (idAt_lt hs e (by omega)) q
          · have : z = d := by omega
            rw [this]; exact q
        · rw [if_neg (fun z => q (hc.1 z))]
          refine bf_lb x t tt hs hl k m i d (by omega) (by omega) d1 (by omega) h5 (fun z hz hzl => ?_)
          rcases Nat.eq_or_lt_of_le hz with e | e
          · subst e; omega
          · have := idAt_lt hs e hzl; omega
    · rw [if_neg (show ¬ (i : Int) < (j : Int) by omega)]
      exact ⟨i, j, rfl, by omega, h5, fun q h7 h8 => h6 q (by omega) h8⟩
theorem bf_find (x : Ix) (t : Int) (tt : List Int) (hs : (x.map Prod.fst).Pairwise (· < ·)) (hl : x.length ≤ 2000000) :
    (∃ (n : Nat) (r : Int × List Int), x[n]? = some r ∧ r.1 = t ∧ slices_BinarySearchFunc_Listed_m x (t, tt) (fun z0 z1 => index_compare_m z0 z1) = ((n : Int), true)) ∨
    ((∀ r ∈ x, r.1 ≠ t) ∧ (slices_BinarySearchFunc_Listed_m x (t, tt) (fun z0 z1 => index_compare_m z0 z1)).2 = false) := by
  obtain ⟨n, o, h1, h2, h3, h4⟩ := bf_lb x t tt hs hl x.length (((x.length : Int) - 0).toNat + 1) 0 x.length (by omega) (by omega) (by omega) (Nat.le_refl _) (fun q h => by omega) (fun q h h' => by omega)
  unfold slices_BinarySearchFunc_Listed_m
  simp only [LR.seq_go]
  rw [show ((0 : Int), (x.length : Int)) = (((0 : Nat) : Int), (x.length : Int)) from rfl, h1]
  have hno : (∀ k, k < x.length → idAt x k ≠ t) → ∀ r ∈ x, r.1 ≠ t := fun hk r hr e => by
    obtain ⟨i, hi⟩ := List.mem_iff_getElem?.1 hr
    refine hk i (List.getElem?_eq_some_iff.1 hi).1 ?_
    unfold idAt
    rw [List.getD_eq_getElem?_getD, List.getElem?_map, hi]; exact e
  by_cases hn : n < x.length
  · rw [if_pos (show (n : Int) < (x.length : Int) by omega), Int.toNat_natCast]
    have hx : x[n]? = some x[n] := List.getElem?_eq_getElem hn
    have hid : idAt x n = x[n].1 := by unfold idAt; rw [List.getD_eq_getElem?_getD, List.getElem?_map, hx]; rfl
    have hc : index_compare_m (x.getD n (0, [])) (t, tt) = 0 ↔ idAt x n = t := by
      unfold index_compare_m idAt
      rw [cmp_Id_eq, getD_fst]
    by_cases e : idAt x n = t
    · rw [decide_eq_true (hc.2 e)]
      exact .inl ⟨n, x[n], hx, by rw [← hid]; exact e, rfl⟩
    · rw [decide_eq_false (fun z => e (hc.1 z))]
      refine .inr ⟨hno (fun k hk q => ?_), rfl⟩
      rcases Nat.lt_trichotomy k n with z | z | z
      · have := h3 k z; omega
      · subst z; exact e q
      · have := idAt_lt hs z hk
        have := h4 n (Nat.le_refl _) hn
        omega
  · rw [if_neg (show ¬ (n : Int) < (x.length : Int) by omega)]
    exact .inr ⟨hno (fun k hk q => by have := h3 k (by omega); omega), rfl⟩
/-- the tables of an id -/
def findA : Ix → Int → List Int
  | [], _ => []
  | r :: x, t => if r.1 = t then r.2 else findA x t
theorem findA_mem : ∀ {x : Ix} (hs : (x.map Prod.fst).Pairwise (· < ·)) {r : Int × List Int}, r ∈ x → findA x r.1 = r.2
  | [], _, r, h => by cases h
  | q :: x, hs, r, h => by
    rw [List.map_cons, List.pairwise_cons] at hs
    rw [findA]
    rcases List.mem_cons.1 h with rfl | h
    · rw [if_pos rfl]
    · rw [if_neg (fun e => by have := hs.1 r.1 (List.mem_map_of_mem h); omega), findA_mem hs.2 h]
theorem findA_no : ∀ {x : Ix} {t : Int}, (∀ r ∈ x, r.1 ≠ t) → findA x t = []
  | [], _, _ => rfl
  | q :: x, t, h => by rw [findA, if_neg (h q (List.mem_cons_self ..)), findA_no (fun r hr => h r (List.mem_cons_of_mem _ hr))]
theorem row_uniq {x : Ix} (hs : (x.map Prod.fst).Pairwise (· < ·)) {r q : Int × List Int} (hr : r ∈ x) (hq : q ∈ x) (e : r.1 = q.1) : r = q := by
  have h1 := findA_mem hs hr
  have h2 := findA_mem hs hq
  rw [e, h2] at h1
  exact Prod.ext e h1.symm
theorem find_eq {x : Ix} (h : RightI x) (hl : x.length ≤ 2000000) (t : Int) : index_Find_m x t = findA x t := by
  unfold index_Find_m
  rw [if_neg (fun q => q ((check_iff x).1.2 h))]
  simp only [LR.seq_go]
  rcases bf_find x t [] h.up hl with ⟨n, r, h1, h2, h3⟩ | ⟨h1, h2⟩
  · rw [h3]
    simp only [Bool.not_true, Bool.false_eq_true, if_false, Int.toNat_natCast]
    rw [List.getD_eq_getElem?_getD, h1, Option.getD_some, ← h2, findA_mem h.up (List.mem_of_getElem? h1)]
  · rw [h2, Bool.not_false, if_pos rfl, findA_no h1]
theorem own14_l1 : ∀ (l s : Ix), windroselaw14_own_l1 l s = s ++ l.map (fun r => (r.1, r.2.take (min r.2.length 12)))
  | [], s => by simp [windroselaw14_own_l1]
  | y :: ys, s => by rw [windroselaw14_own_l1, own14_l1 ys]; simp
theorem own14_eq (x : Ix) : windroselaw14_own_m x = (x.take (min x.length 60)).map (fun r => (r.1, r.2.take (min r.2.length 12))) := by
  unfold windroselaw14_own_m
  rw [LR.seq_go, own14_l1, List.nil_append]
theorem own14_U {x : Ix} (h : ∀ r ∈ x, U r.1) : ∀ r ∈ windroselaw14_own_m x, U r.1 := by
  rw [own14_eq]
  intro r hr
  obtain ⟨q, hq, rfl⟩ := List.mem_map.1 hr
  exact h q (List.mem_of_mem_take hq)
theorem inA_mem {x : Ix} {n y : Int} : y ∈ inA x n ↔ ∃ r ∈ x, n ∈ r.2 ∧ r.1 = y := by
  unfold inA
  rw [List.mem_map]
  constructor
  · rintro ⟨r, hr, e⟩
    obtain ⟨h1, h2⟩ := List.mem_filter.1 hr
    exact ⟨r, h1, of_decide_eq_true h2, e⟩
  · rintro ⟨r, h1, h2, e⟩
    exact ⟨r, List.mem_filter.2 ⟨h1, decide_eq_true h2⟩, e⟩
theorem inA_row {x : Ix} (hs : (x.map Prod.fst).Pairwise (· < ·)) {r : Int × List Int} (hr : r ∈ x) (n : Int) : r.1 ∈ inA x n ↔ n ∈ r.2 := by
  rw [inA_mem]
  constructor
  · rintro ⟨q, hq, h1, e⟩
    rw [← row_uniq hs hq hr e]; exact h1
  · exact fun h => ⟨r, hr, h, rfl⟩
theorem bareA_mem {l : List Int} {y : Int} : y ∈ bareA l ↔ y ∈ l ∧ kindG y ≠ 4 := by
  unfold bareA
  rw [List.mem_filter, Bool.not_eq_true', decide_eq_false_iff_not]
/-- Which ids a table is listed under: those of its type, and the patterns that take one. -/
theorem inA_keys {x : Ix} (h : RightI x) (hu : ∀ r ∈ x, U r.1) (n y : Int) : y ∈ inA x n ↔ ∃ z ∈ bareA (inA x n), y = z ∨ (kindI z = 3 ∧ y ∈ pats z) := by
  obtain ⟨h1, h2⟩ := h.tabs n
  have hb : ∀ z ∈ bareA (inA x n), U z := fun z hz => by
    obtain ⟨r, hr, _, e⟩ := inA_mem.1 (bareA_mem.1 hz).1
    rw [← e]; exact hu r hr
  rw [← Keys_mem h1 hb, h2]
end Go.SX

set_option linter.unusedVariables false
set_option linter.unusedSimpArgs false
namespace Go.SX
open Go Go.Proofs

def slices_Compact_int_l3 (a0 : List Int) (n3l1 : Int) : Nat → (Int × Int × (List Int)) → Int × Int × (List Int)
  | 0, _ => default
  | ml3 + 1, sl3 => if sl3.2.1 < (((a0.length - (n3l1).toNat) : Nat) : Int) then (LR.seq ((decide ((sl3.2.2.getD ((n3l1).toNat + sl3.2.1.toNat) (0 : Int)) ≠ (sl3.2.2.getD ((n3l1).toNat + ((sl3.2.1 - 1)).toNat) (0 : Int)))) : Bool) (fun sc4 => if sc4 = true then (slices_Compact_int_l3 a0 n3l1 ml3 (((sl3.1 + 1), (sl3.2.1 + 1), (sl3.2.2.set sl3.1.toNat (sl3.2.2.getD ((n3l1).toNat + sl3.2.1.toNat) (0 : Int)))))) else (slices_Compact_int_l3 a0 n3l1 ml3 ((sl3.1, (sl3.2.1 + 1), sl3.2.2))))) else ((sl3.1, sl3.2.1, sl3.2.2))
def slices_Compact_int_l1 (a0 : List Int) : Nat → Int → LR ((List Int)) (Int)
  | 0, _ => .go default
  | ml1 + 1, sl1 => if sl1 < (a0.length : Int) then (LR.seq ((decide ((a0.getD sl1.toNat (0 : Int)) = (a0.getD (((sl1 - 1)).toNat) (0 : Int)))) : Bool) (fun sc2 => if sc2 = true then (LR.seq (slices_Compact_int_l3 a0 sl1 (((a0.length : Int) - 1).toNat + 1) ((sl1, 1, a0))) (fun ol3 => .ret ((ol3.2.2.take (ol3.1).toNat).take ol3.1.toNat))) else (slices_Compact_int_l1 a0 ml1 ((sl1 + 1))))) else (.go sl1)
def slices_Compact_int_m (a0 : List Int) : (List Int) :=
  if (a0.length : Int) < 2 then a0 else (LR.on (slices_Compact_int_l1 a0 (((a0.length : Int) - 1).toNat + 1) 1) (fun r => r) (fun ol1 => a0))
set_option maxHeartbeats 3200000 in
theorem slices_Compact_int_c (H : Heap) (va0 : Value) (a0 : List Int) (Ca0 : Chunk) (ha0 : OwnS (intE .i64) 3 H va0 a0 Ca0) (hl : a0.length ≤ 4000000) : Fc Try.prog (fnv 34) [va0] H [Ca0] (fun v' H' L' => ∃ u0_0 c0_0, v' = u0_0 ∧ L' = [c0_0] ∧ OwnS (intE .i64) 3 H' u0_0 (slices_Compact_int_m a0) c0_0) := by
  refine Fc.of_body (N := 61) Try.func34 rfl (by kernel_rfl) rfl rfl ?_
  intro w0
  obtain ⟨Aa0, pa0, rfl, ma0, na0⟩ := OwnS.shape ha0
  refine T.seq ?_
  refine T.region ?_
  refine R.asE rfl (by conv => lhs; whnf) ?_
  refine TL.nil (Post.thnN ?_)
  refine T.seq ?_
  refine T.seq ?_
  refine T.region ?_
  refine R.mvE rfl (by conv => lhs; whnf) ?_
  refine R.len Try.underlying37 rfl rfl ?_
  refine R.lss rfl rfl rfl ?_
  refine TL.nil (Post.thnN ?_)
  refine T.condD rfl (fun c8 => ?_) (fun c8 => ?_)
  · refine T.set 8 (.bool true) (congrArg Value.bool (decide_eq_true c8)) ?_
    refine T.seq ?_
    refine T.region ?_
    refine R.mvE rfl (by conv => lhs; whnf) ?_
    refine R.asE rfl (by conv => lhs; whnf) ?_
    refine TL.nil (Post.thnN ?_)
    refine T.has (Has.cons .hd Has.nil) ?_
    refine T.ret (Post.thnR ?_)
    have hM : slices_Compact_int_m a0 = a0 := by rw [slices_Compact_int_m, if_pos c8]
    exact fin1L (v := .slice Aa0 a0.length pa0) [Ca0] rfl rfl (List.Sublist.refl _) ⟨.slice Aa0 a0.length pa0, Ca0, by first | rw [hM] | rfl, rfl, by rw [hM]; exact ha0⟩
  refine T.set 8 (.bool false) (congrArg Value.bool (decide_eq_false c8)) ?_
  refine T.skip (Post.thnN ?_)
  refine T.seq ?_
  refine T.seq ?_
  refine T.region ?_
  refine R.asE rfl (by conv => lhs; whnf) ?_
  refine TL.nil (Post.thnN ?_)
  refine T.block ?_
  refine T.loop (ι := Nat × Int) (fun ⟨kl1, n3l1⟩ H' L' ds' => ((a0.length : Int) - n3l1).toNat < kl1 ∧ Has L' [Ca0] ∧ 1 ≤ n3l1 ∧ n3l1 ≤ (a0.length : Int) ∧ slices_Compact_int_l1 a0 kl1 n3l1 = slices_Compact_int_l1 a0 (((a0.length : Int) - 1).toNat + 1) 1) (fun ⟨kl1, n3l1⟩ => [(0, .slice Aa0 a0.length pa0), (3, .int .i64 n3l1)]) (fun ⟨kl1, n3l1⟩ => kl1) ((((a0.length : Int) - 1).toNat + 1), 1) ?_ ?_ ?_
  · exact ⟨(by omega), (Has.cons .hd Has.nil), (by first | omega | (simp; done) | (simp; omega) | (simp at *; omega)), (by first | omega | (simp; done) | (simp; omega) | (simp at *; omega)), (by rfl)⟩
  · exact ⟨rfl, rfl, trivial⟩
  intro ⟨kl1, n3l1⟩ σ_l1 H_l1 L_l1 ds_l1 s_l1 hI_l1
  obtain ⟨hkl1, hI_l1⟩ := hI_l1
  obtain ⟨ml1, rfl⟩ : ∃ m, kl1 = m + 1 := ⟨kl1 - 1, by omega⟩
  obtain ⟨hLl1, hBl1_0, hBl1_1, hQl1⟩ := hI_l1
  refine T.has hLl1 ?_
  refine T.seq ?_
  refine T.seq ?_
  refine T.region ?_
  refine R.mvE rfl (by conv => lhs; whnf) ?_
  refine R.mvE rfl (by conv => lhs; whnf) ?_
  refine R.len Try.underlying37 rfl rfl ?_
  refine R.lss rfl rfl rfl ?_
  refine TL.nil (Post.thnN ?_)
  refine T.condD rfl (fun c13 => ?_) (fun c13 => ?_)
  · refine T.set 13 (.bool true) (congrArg Value.bool (decide_eq_true c13)) ?_
    refine T.skip (Post.thnN ?_)
    refine T.seq ?_
    refine T.block ?_
    refine T.seq ?_
    refine T.cutK (ι := Bool) (fun b25c2 H' L' ds' => Has L' [Ca0] ∧ ((decide ((a0.getD n3l1.toNat (0 : Int)) = (a0.getD (((n3l1 - 1)).toNat) (0 : Int)))) : Bool) = b25c2) (fun b25c2 => [(0, .slice Aa0 a0.length pa0), (3, .int .i64 n3l1), (25, .bool (b25c2))]) ?_ ?_
    · refine T.draw Try_mixed (by kernel_rfl) ?_
      refine Plan.v 0 [1, 2, 3, 4, 5, 6, 7, 8, 9] (by kernel_rfl) (by kernel_rfl) (by kernel_rfl) (by kernel_rfl) rfl (fun _ _ h_ => R.mvE rfl (by conv => lhs; whnf) (TL.nil h_)) ?_
      refine Plan.v 1 [2, 3, 4, 5, 6, 7, 8, 9] (by kernel_rfl) (by kernel_rfl) (by kernel_rfl) (by kernel_rfl) rfl (fun _ _ h_ => R.mvE rfl (by conv => lhs; whnf) (TL.nil h_)) ?_
      have hl18 : n3l1.toNat < a0.length := by first | omega | (simp; done) | (simp; omega) | (simp at *; omega)
      obtain ⟨y18, e18, h18⟩ : ∃ y, y = (a0.getD n3l1.toNat (0 : Int)) ∧ a0[n3l1.toNat]? = some y := ⟨_, rfl, getD_get (by first | exact hl18 | simpa using hl18 | (simp only [List.length_set]; omega) | omega | (rw [(sortI_perm _).length_eq]; exact hl18))⟩
      obtain ⟨b18, u18, cs18, l18, f18, j18, i18, g18, k18⟩ := OwnS.elem (OwnS.mono ha0 s_l1) h18
      obtain rfl : l18 = [.int .i64 y18] := g18
      refine Plan.v 2 [3, 4, 5, 6, 7, 8, 9] (by kernel_rfl) (by kernel_rfl) (by kernel_rfl) (by kernel_rfl) rfl (fun _ _ h_ => R.ixp (sz := ((intE .i64)).size) Try.underlying37 Try.sizeOf3 rfl rfl rfl (by first | omega | (simp; done) | (simp; omega) | (simp at *; omega)) i18 (TL.nil h_)) ?_
      refine Plan.v 4 [3, 5, 6, 7, 8, 9] (by kernel_rfl) (by kernel_rfl) (by kernel_rfl) (by kernel_rfl) rfl (fun _ _ h_ => R.mvE rfl (by conv => lhs; whnf) (TL.nil h_)) ?_
      refine Plan.v 5 [3, 6, 7, 8, 9] (by kernel_rfl) (by kernel_rfl) (by kernel_rfl) (by kernel_rfl) rfl (fun _ _ h_ => R.mvE rfl (by conv => lhs; whnf) (TL.nil h_)) ?_
      refine Plan.v 6 [3, 7, 8, 9] (by kernel_rfl) (by kernel_rfl) (by kernel_rfl) (by kernel_rfl) rfl (fun _ _ h_ => R.subI rfl rfl rfl (by omega) (TL.nil h_)) ?_
      have hl23 : ((n3l1 - 1)).toNat < a0.length := by first | omega | (simp; done) | (simp; omega) | (simp at *; omega)
      obtain ⟨y23, e23, h23⟩ : ∃ y, y = (a0.getD (((n3l1 - 1)).toNat) (0 : Int)) ∧ a0[((n3l1 - 1)).toNat]? = some y := ⟨_, rfl, getD_get (by first | exact hl23 | simpa using hl23 | (simp only [List.length_set]; omega) | omega | (rw [(sortI_perm _).length_eq]; exact hl23))⟩
      obtain ⟨b23, u23, cs23, l23, f23, j23, i23, g23, k23⟩ := OwnS.elem (OwnS.mono ha0 s_l1) h23
      obtain rfl : l23 = [.int .i64 y23] := g23
      refine Plan.v 7 [3, 8, 9] (by kernel_rfl) (by kernel_rfl) (by kernel_rfl) (by kernel_rfl) rfl (fun _ _ h_ => R.ixp (sz := ((intE .i64)).size) Try.underlying37 Try.sizeOf3 rfl rfl rfl (by first | omega | (simp; done) | (simp; omega) | (simp at *; omega)) i23 (TL.nil h_)) ?_
      refine Plan.s2 3 8 [8, 9] [3, 9] (by kernel_rfl) (by kernel_rfl) (by kernel_rfl) rfl rfl ?_ ?_
      · refine R.ld Try.isAgg3 rfl rfl (by rw [← f18]; exact .hd) (k18 0 _ rfl) ?_
        refine TL.nil (Plan.e1 (HLe.refl _) ?_)
        refine Plan.s1 8 [9] (by kernel_rfl) (by kernel_rfl) rfl ?_
        refine R.ld Try.isAgg3 rfl rfl (by rw [← f23]; exact .hd) (k23 0 _ rfl) ?_
        refine TL.nil (Plan.e1 (HLe.refl _) ?_)
        refine Plan.v 9 [] (by kernel_rfl) (by kernel_rfl) (by kernel_rfl) (by kernel_rfl) rfl (fun _ _ h_ => R.eql rfl rfl rfl (TL.nil h_)) ?_
        refine Plan.done (Post.thnN ?_)
        exact ⟨(decide (y18 = y23)), HLe.refl _, ⟨(Has.cons .hd Has.nil), (by subst e23; subst e18; rfl)⟩, rfl, rfl, rfl, trivial⟩
      refine R.ld Try.isAgg3 rfl rfl (by rw [← f23]; exact .hd) (k23 0 _ rfl) ?_
      refine TL.nil (Plan.e1 (HLe.refl _) ?_)
      refine Plan.s1 3 [9] (by kernel_rfl) (by kernel_rfl) rfl ?_
      refine R.ld Try.isAgg3 rfl rfl (by rw [← f18]; exact .hd) (k18 0 _ rfl) ?_
      refine TL.nil (Plan.e1 (HLe.refl _) ?_)
      refine Plan.v 9 [] (by kernel_rfl) (by kernel_rfl) (by kernel_rfl) (by kernel_rfl) rfl (fun _ _ h_ => R.eql rfl rfl rfl (TL.nil h_)) ?_
      refine Plan.done (Post.thnN ?_)
      exact ⟨(decide (y18 = y23)), HLe.refl _, ⟨(Has.cons .hd Has.nil), (by subst e23; subst e18; rfl)⟩, rfl, rfl, rfl, trivial⟩
    intro b25c2 σ_c2 H_c2 L_c2 ds_c2 s_c2 hI_c2
    obtain ⟨hLc2, hTc2⟩ := hI_c2
    refine T.has hLc2 ?_
    refine T.cond rfl (fun c25 => ?_) (fun c25 => ?_)
    · refine T.set 25 (.bool true) (congrArg Value.bool c25) ?_
      have hZ25 := hTc2.trans c25
      try simp only [or_f, or_t, and_f, and_t, decide_eq_true_eq, decide_eq_false_iff_not, Bool.not_eq_true'] at hZ25
      refine T.seq ?_
      refine T.region ?_
      refine R.mvE rfl (by conv => lhs; whnf) ?_
      refine R.mvE rfl (by conv => lhs; whnf) ?_
      refine R.sL Try.underlying37 Try.sizeOf3 rfl rfl rfl (by omega) (by omega) ?_
      refine R.asE rfl (by conv => lhs; whnf) ?_
      refine TL.nil (Post.thnN ?_)
      refine T.seq ?_
      refine T.seq ?_
      refine T.region ?_
      refine R.asE rfl (by conv => lhs; whnf) ?_
      refine TL.nil (Post.thnN ?_)
      refine T.block ?_
      refine T.loop (ι := Nat × Int × Int × (List Int) × Chunk) (fun ⟨kl3, n3l3, n5l3, xPa0l3, cPa0l3⟩ H' L' ds' => ((a0.length : Int) - n5l3).toNat < kl3 ∧ Has L' [cPa0l3] ∧ OwnS (intE .i64) 3 H' (.slice Aa0 a0.length pa0) xPa0l3 cPa0l3 ∧ 1 ≤ n5l3 ∧ 1 ≤ n3l3 ∧ n3l3 + 1 ≤ n3l1 + n5l3 + 0 ∧ n3l1 + n5l3 ≤ (a0.length : Int) ∧ slices_Compact_int_l3 a0 n3l1 kl3 ((n3l3, n5l3, xPa0l3)) = slices_Compact_int_l3 a0 n3l1 (((a0.length : Int) - 1).toNat + 1) ((n3l1, 1, a0))) (fun ⟨kl3, n3l3, n5l3, xPa0l3, cPa0l3⟩ => [(0, .slice Aa0 a0.length pa0), (3, .int .i64 n3l3), (4, slcV (.slice Aa0 a0.length pa0) (n3l1).toNat a0.length pa0 1), (5, .int .i64 n5l3)]) (fun ⟨kl3, n3l3, n5l3, xPa0l3, cPa0l3⟩ => kl3) ((((a0.length : Int) - 1).toNat + 1), n3l1, 1, a0, Ca0) ?_ ?_ ?_
      · exact ⟨(by omega), (Has.cons .hd Has.nil), (OwnS.mono ha0 (s_l1.trans s_c2)), (by first | omega | (simp; done) | (simp; omega) | (simp at *; omega)), (by first | omega | (simp; done) | (simp; omega) | (simp at *; omega)), (by first | omega | (simp; done) | (simp; omega) | (simp at *; omega)), (by first | omega | (simp; done) | (simp; omega) | (simp at *; omega)), (by rfl)⟩
      · exact ⟨rfl, rfl, rfl, rfl, trivial⟩
      intro ⟨kl3, n3l3, n5l3, xPa0l3, cPa0l3⟩ σ_l3 H_l3 L_l3 ds_l3 s_l3 hI_l3
      obtain ⟨hkl3, hI_l3⟩ := hI_l3
      obtain ⟨ml3, rfl⟩ : ∃ m, kl3 = m + 1 := ⟨kl3 - 1, by omega⟩
      obtain ⟨hLl3, wPa0l3, hBl3_0, hBl3_1, hBl3_2, hBl3_3, hQl3⟩ := hI_l3
      have nPa0l3_ := OwnS.len wPa0l3
      refine T.has hLl3 ?_
      refine T.seq ?_
      refine T.seq ?_
      refine T.region ?_
      refine R.mvE rfl (by conv => lhs; whnf) ?_
      refine R.mvE rfl (by conv => lhs; whnf) ?_
      refine R.len Try.underlying37 rfl rfl ?_
      refine R.lss rfl rfl rfl ?_
      refine TL.nil (Post.thnN ?_)
      refine T.condD rfl (fun c32 => ?_) (fun c32 => ?_)
      · refine T.set 32 (.bool true) (congrArg Value.bool (decide_eq_true c32)) ?_
        refine T.skip (Post.thnN ?_)
        refine T.seq ?_
        refine T.block ?_
        refine T.seq ?_
        refine T.cutK (ι := Bool) (fun b44c4 H' L' ds' => Has L' [cPa0l3] ∧ ((decide ((xPa0l3.getD ((n3l1).toNat + n5l3.toNat) (0 : Int)) ≠ (xPa0l3.getD ((n3l1).toNat + ((n5l3 - 1)).toNat) (0 : Int)))) : Bool) = b44c4) (fun b44c4 => [(0, .slice Aa0 a0.length pa0), (3, .int .i64 n3l3), (4, slcV (.slice Aa0 a0.length pa0) (n3l1).toNat a0.length pa0 1), (5, .int .i64 n5l3), (44, .bool (b44c4))]) ?_ ?_
        · refine T.draw Try_mixed (by kernel_rfl) ?_
          refine Plan.v 0 [1, 2, 3, 4, 5, 6, 7, 8, 9] (by kernel_rfl) (by kernel_rfl) (by kernel_rfl) (by kernel_rfl) rfl (fun _ _ h_ => R.mvE rfl (by conv => lhs; whnf) (TL.nil h_)) ?_
          refine Plan.v 1 [2, 3, 4, 5, 6, 7, 8, 9] (by kernel_rfl) (by kernel_rfl) (by kernel_rfl) (by kernel_rfl) rfl (fun _ _ h_ => R.mvE rfl (by conv => lhs; whnf) (TL.nil h_)) ?_
          have hl37 : ((n3l1).toNat + n5l3.toNat) < xPa0l3.length := by (try simp only [List.length_set]); omega
          obtain ⟨y37, e37, h37⟩ : ∃ y, y = (xPa0l3.getD ((n3l1).toNat + n5l3.toNat) (0 : Int)) ∧ xPa0l3[((n3l1).toNat + n5l3.toNat)]? = some y := ⟨_, rfl, getD_get hl37⟩
          obtain ⟨b37, u37, cs37, l37, f37, j37, i37, g37, k37⟩ := OwnS.elem wPa0l3 h37
          obtain rfl : l37 = [.int .i64 y37] := g37
          refine Plan.v 2 [3, 4, 5, 6, 7, 8, 9] (by kernel_rfl) (by kernel_rfl) (by kernel_rfl) (by kernel_rfl) rfl (fun _ _ h_ => R.ixpV (sz := ((intE .i64)).size) (m := ((n3l1).toNat + n5l3.toNat)) Try.underlying37 Try.sizeOf3 rfl rfl rfl (by omega) rfl (by omega) i37 (TL.nil h_)) ?_
          refine Plan.v 4 [3, 5, 6, 7, 8, 9] (by kernel_rfl) (by kernel_rfl) (by kernel_rfl) (by kernel_rfl) rfl (fun _ _ h_ => R.mvE rfl (by conv => lhs; whnf) (TL.nil h_)) ?_
          refine Plan.v 5 [3, 6, 7, 8, 9] (by kernel_rfl) (by kernel_rfl) (by kernel_rfl) (by kernel_rfl) rfl (fun _ _ h_ => R.mvE rfl (by conv => lhs; whnf) (TL.nil h_)) ?_
          refine Plan.v 6 [3, 7, 8, 9] (by kernel_rfl) (by kernel_rfl) (by kernel_rfl) (by kernel_rfl) rfl (fun _ _ h_ => R.subI rfl rfl rfl (by omega) (TL.nil h_)) ?_
          have hl42 : ((n3l1).toNat + ((n5l3 - 1)).toNat) < xPa0l3.length := by (try simp only [List.length_set]); omega
          obtain ⟨y42, e42, h42⟩ : ∃ y, y = (xPa0l3.getD ((n3l1).toNat + ((n5l3 - 1)).toNat) (0 : Int)) ∧ xPa0l3[((n3l1).toNat + ((n5l3 - 1)).toNat)]? = some y := ⟨_, rfl, getD_get hl42⟩
          obtain ⟨b42, u42, cs42, l42, f42, j42, i42, g42, k42⟩ := OwnS.elem wPa0l3 h42
          obtain rfl : l42 = [.int .i64 y42] := g42
          refine Plan.v 7 [3, 8, 9] (by kernel_rfl) (by kernel_rfl) (by kernel_rfl) (by kernel_rfl) rfl (fun _ _ h_ => R.ixpV (sz := ((intE .i64)).size) (m := ((n3l1).toNat + ((n5l3 - 1)).toNat)) Try.underlying37 Try.sizeOf3 rfl rfl rfl (by omega) rfl (by omega) i42 (TL.nil h_)) ?_
          refine Plan.s2 3 8 [8, 9] [3, 9] (by kernel_rfl) (by kernel_rfl) (by kernel_rfl) rfl rfl ?_ ?_
          · refine R.ld Try.isAgg3 rfl rfl (by rw [← f37]; exact .hd) (k37 0 _ rfl) ?_
            refine TL.nil (Plan.e1 (HLe.refl _) ?_)
            refine Plan.s1 8 [9] (by kernel_rfl) (by kernel_rfl) rfl ?_
            refine R.ld Try.isAgg3 rfl rfl (by rw [← f42]; exact .hd) (k42 0 _ rfl) ?_
            refine TL.nil (Plan.e1 (HLe.refl _) ?_)
            refine Plan.v 9 [] (by kernel_rfl) (by kernel_rfl) (by kernel_rfl) (by kernel_rfl) rfl (fun _ _ h_ => R.neq rfl rfl rfl (TL.nil h_)) ?_
            refine Plan.done (Post.thnN ?_)
            exact ⟨(decide (y37 ≠ y42)), HLe.refl _, ⟨(Has.cons .hd Has.nil), (by subst e42; subst e37; rfl)⟩, rfl, rfl, rfl, rfl, rfl, trivial⟩
          refine R.ld Try.isAgg3 rfl rfl (by rw [← f42]; exact .hd) (k42 0 _ rfl) ?_
          refine TL.nil (Plan.e1 (HLe.refl _) ?_)
          refine Plan.s1 3 [9] (by kernel_rfl) (by kernel_rfl) rfl ?_
          refine R.ld Try.isAgg3 rfl rfl (by rw [← f37]; exact .hd) (k37 0 _ rfl) ?_
          refine TL.nil (Plan.e1 (HLe.refl _) ?_)
          refine Plan.v 9 [] (by kernel_rfl) (by kernel_rfl) (by kernel_rfl) (by kernel_rfl) rfl (fun _ _ h_ => R.neq rfl rfl rfl (TL.nil h_)) ?_
          refine Plan.done (Post.thnN ?_)
          exact ⟨(decide (y37 ≠ y42)), HLe.refl _, ⟨(Has.cons .hd Has.nil), (by subst e42; subst e37; rfl)⟩, rfl, rfl, rfl, rfl, rfl, trivial⟩
        intro b44c4 σ_c4 H_c4 L_c4 ds_c4 s_c4 hI_c4
        obtain ⟨hLc4, hTc4⟩ := hI_c4
        refine T.has hLc4 ?_
        refine T.cond rfl (fun c44 => ?_) (fun c44 => ?_)
        · refine T.set 44 (.bool true) (congrArg Value.bool c44) ?_
          have hZ44 := hTc4.trans c44
          try simp only [or_f, or_t, and_f, and_t, decide_eq_true_eq, decide_eq_false_iff_not, Bool.not_eq_true'] at hZ44
          refine T.seq ?_
          refine T.region ?_
          refine R.mvE rfl (by conv => lhs; whnf) ?_
          refine R.mvE rfl (by conv => lhs; whnf) ?_
          refine R.mvE rfl (by conv => lhs; whnf) ?_
          refine R.mvE rfl (by conv => lhs; whnf) ?_
          have hl49 : ((n3l1).toNat + n5l3.toNat) < xPa0l3.length := by (try simp only [List.length_set]); omega
          obtain ⟨y49, e49, h49⟩ : ∃ y, y = (xPa0l3.getD ((n3l1).toNat + n5l3.toNat) (0 : Int)) ∧ xPa0l3[((n3l1).toNat + n5l3.toNat)]? = some y := ⟨_, rfl, getD_get hl49⟩
          obtain ⟨b49, u49, cs49, l49, f49, j49, i49, g49, k49⟩ := OwnS.elem (OwnS.mono wPa0l3 s_c4) h49
          obtain rfl : l49 = [.int .i64 y49] := g49
          refine R.ixpV (sz := ((intE .i64)).size) (m := ((n3l1).toNat + n5l3.toNat)) Try.underlying37 Try.sizeOf3 rfl rfl rfl (by omega) rfl (by omega) i49 ?_
          refine R.ld Try.isAgg3 rfl rfl (by rw [← f49]; exact .hd) (k49 0 _ rfl) ?_
          have hl51 : n3l3.toNat < a0.length := by first | omega | (simp; done) | (simp; omega) | (simp at *; omega)
          obtain ⟨y51, e51, h51⟩ : ∃ y, y = (xPa0l3.getD n3l3.toNat (0 : Int)) ∧ xPa0l3[n3l3.toNat]? = some y := ⟨_, rfl, getD_get (by first | exact hl51 | simpa using hl51 | (simp only [List.length_set]; omega) | omega | (rw [(sortI_perm _).length_eq]; exact hl51))⟩
          obtain ⟨b51, u51, cs51, l51, f51, j51, i51, g51, k51⟩ := OwnS.elem (OwnS.mono wPa0l3 s_c4) h51
          obtain rfl : l51 = [.int .i64 y51] := g51
          refine R.ixp (sz := ((intE .i64)).size) Try.underlying37 Try.sizeOf3 rfl rfl rfl (by first | omega | (simp; done) | (simp; omega) | (simp at *; omega)) i51 ?_
          refine R.stEF (E := (intE .i64)) (e := 3) (v := (.slice Aa0 a0.length pa0)) (m := [.int .i64 y49]) (o := 0) (y := y51) (y' := y49) (j := n3l3.toNat) Try.sizeOf3 rfl (OwnS.mono wPa0l3 s_c4) .hd i51 rfl rfl (cells1 rfl) (all_one rfl) h51 (by show 0 + 1 ≤ 1; decide) (fun l hl => by have e0 : l = [.int .i64 y51] := hl; subst e0; exact rfl) ?_
          intro cst12 wst12
          refine TL.nil (Post.thnN ?_)
          refine T.region ?_
          refine R.mvE rfl (by conv => lhs; whnf) ?_
          refine R.addI rfl rfl rfl (by omega) ?_
          refine R.asE rfl (by conv => lhs; whnf) ?_
          refine TL.nil (Post.blkN ?_)
          refine id (Post.thnN ?_)
          refine T.region ?_
          refine R.mvE rfl (by conv => lhs; whnf) ?_
          refine R.addI rfl rfl rfl (by omega) ?_
          refine R.asE rfl (by conv => lhs; whnf) ?_
          refine TL.nil (Post.thnN ?_)
          exact ⟨(ml3, (n3l3 + 1), (n5l3 + 1), (xPa0l3.set n3l3.toNat y49), cst12), (s_l3.trans s_c4), ⟨(by first | omega | (simp; omega) | (simp at *; omega)), (Has.cons .hd Has.nil), wst12, (by first | omega | (simp; done) | (simp; omega) | (simp at *; omega)), (by first | omega | (simp; done) | (simp; omega) | (simp at *; omega)), (by first | omega | (simp; done) | (simp; omega) | (simp at *; omega)), (by first | omega | (simp; done) | (simp; omega) | (simp at *; omega)), (by subst e51; subst e49; rw [← hQl3, slices_Compact_int_l3]; rw [if_pos c32, hTc4, LR.seq_go, if_t c44])⟩, by show ml3 < ml3 + 1; omega, rfl, rfl, rfl, rfl, trivial⟩
        refine T.set 44 (.bool false) (congrArg Value.bool c44) ?_
        have hZ44 := hTc4.trans c44
        try simp only [or_f, or_t, and_f, and_t, decide_eq_true_eq, decide_eq_false_iff_not, Bool.not_eq_true'] at hZ44
        refine T.skip (Post.blkN ?_)
        refine id (Post.thnN ?_)
        refine T.region ?_
        refine R.mvE rfl (by conv => lhs; whnf) ?_
        refine R.addI rfl rfl rfl (by omega) ?_
        refine R.asE rfl (by conv => lhs; whnf) ?_
        refine TL.nil (Post.thnN ?_)
        exact ⟨(ml3, n3l3, (n5l3 + 1), xPa0l3, cPa0l3), (s_l3.trans s_c4), ⟨(by first | omega | (simp; omega) | (simp at *; omega)), (Has.cons .hd Has.nil), (OwnS.mono wPa0l3 s_c4), (by first | omega | (simp; done) | (simp; omega) | (simp at *; omega)), (by first | omega | (simp; done) | (simp; omega) | (simp at *; omega)), (by first | omega | (simp; done) | (simp; omega) | (simp at *; omega)), (by first | omega | (simp; done) | (simp; omega) | (simp at *; omega)), (by rw [← hQl3, slices_Compact_int_l3]; rw [if_pos c32, hTc4, LR.seq_go, if_f c44])⟩, by show ml3 < ml3 + 1; omega, rfl, rfl, rfl, rfl, trivial⟩
      refine T.set 32 (.bool false) (congrArg Value.bool (decide_eq_false c32)) ?_
      refine T.exit (Post.thnE (Post.thnE (Post.blkX ?_)))
      have hEl3 : slices_Compact_int_l3 a0 n3l1 (((a0.length : Int) - 1).toNat + 1) ((n3l1, 1, a0)) = (n3l3, n5l3, xPa0l3) := (by rw [← hQl3, slices_Compact_int_l3]; rw [if_neg c32])
      refine id (Post.thnN ?_)
      refine T.seq ?_
      refine T.region ?_
      refine R.mvE rfl (by conv => lhs; whnf) ?_
      refine R.mvE rfl (by conv => lhs; whnf) ?_
      refine R.sL Try.underlying37 Try.sizeOf3 rfl rfl rfl (by omega) (by omega) ?_
      obtain ⟨xz13, ez13⟩ : ∃ x, x = (xPa0l3.take (n3l3).toNat) := ⟨_, rfl⟩
      have tz13 : xz13.length = (n3l3).toNat := by rw [ez13, List.length_take]; (try simp only [List.length_set]); omega
      refine R.clr (dd := none) (xs := xz13) (A := Aa0) (cap := pa0) Try_ty37 (zone_of (z := .int .i64 0) (by kernel_rfl) (by intro v hv; have e0 : v = .int .i64 0 := (by simpa [Value.cells] using hv); subst e0; rfl)) rfl (fun q h => by cases h) (m := a0.length) (by rw [tz13]; rfl) (by rw [tz13, ez13]; exact own_take0 (by have hz_ := wPa0l3; have hq_ := (OwnS.len wPa0l3); rw [hq_] at hz_; exact hz_) (by (try simp only [List.length_set]); omega)) .hd (by omega) (by omega) ?_
      intro cz13 wz13
      refine TL.nil (Post.thnN ?_)
      refine T.seq ?_
      refine T.region ?_
      refine R.mvE rfl (by conv => lhs; whnf) ?_
      refine R.mvE rfl (by conv => lhs; whnf) ?_
      have z59 := OwnS.takeM wz13 (i := n3l3.toNat) (m := pa0) (by first | omega | (simp; omega)) (by first | omega | (simp; omega)) (by first | omega | (simp; omega))
      obtain ⟨x59, e59⟩ : ∃ x, x = (xz13.take n3l3.toNat) := ⟨_, rfl⟩
      rw [← e59] at z59
      obtain ⟨A59, p59, q59, m59, n59⟩ := OwnS.shape z59
      have t59 : x59.length = n3l3.toNat := by rw [e59, List.length_take]; omega
      refine R.sH Try.underlying37 Try.sizeOf3 rfl rfl rfl (by first | omega | (simp; omega)) (by first | omega | (simp; omega))  ?_
      refine TL.set 59 (.slice A59 x59.length p59) (by first | exact q59 | (rw [← q59]; simp; done) | (rw [← q59]; rfl)) ?_
      rw [q59] at z59
      refine R.asE rfl (by conv => lhs; whnf) ?_
      refine TL.nil (Post.thnN ?_)
      refine T.has (Has.cons .hd Has.nil) ?_
      refine T.ret (Post.blkR (Post.thnR (Post.thnR (Post.blkR (Post.thnR ?_)))))
      have hXl1 : slices_Compact_int_l1 a0 (((a0.length : Int) - 1).toNat + 1) 1 = .ret x59 := by subst e59; subst ez13; rw [← hQl1, slices_Compact_int_l1]; rw [if_pos c13, hTc2, LR.seq_go, if_t c25, hEl3, LR.seq_go]
      have hM : slices_Compact_int_m a0 = x59 := by rw [slices_Compact_int_m, if_neg c8, hXl1, LR.on_ret]
      exact fin1L (v := .slice A59 x59.length p59) [cz13] rfl rfl (List.Sublist.refl _) ⟨.slice A59 x59.length p59, cz13, by first | rw [hM] | rfl, rfl, by rw [hM]; exact z59⟩
    refine T.set 25 (.bool false) (congrArg Value.bool c25) ?_
    have hZ25 := hTc2.trans c25
    try simp only [or_f, or_t, and_f, and_t, decide_eq_true_eq, decide_eq_false_iff_not, Bool.not_eq_true'] at hZ25
    refine T.skip (Post.blkN ?_)
    refine id (Post.thnN ?_)
    refine T.region ?_
    refine R.mvE rfl (by conv => lhs; whnf) ?_
    refine R.addI rfl rfl rfl (by omega) ?_
    refine R.asE rfl (by conv => lhs; whnf) ?_
    refine TL.nil (Post.thnN ?_)
    exact ⟨(ml1, (n3l1 + 1)), (s_l1.trans s_c2), ⟨(by first | omega | (simp; omega) | (simp at *; omega)), (Has.cons .hd Has.nil), (by first | omega | (simp; done) | (simp; omega) | (simp at *; omega)), (by first | omega | (simp; done) | (simp; omega) | (simp at *; omega)), (by rw [← hQl1, slices_Compact_int_l1]; rw [if_pos c13, hTc2, LR.seq_go, if_f c25])⟩, by show ml1 < ml1 + 1; omega, rfl, rfl, trivial⟩
  refine T.set 13 (.bool false) (congrArg Value.bool (decide_eq_false c13)) ?_
  refine T.exit (Post.thnE (Post.thnE (Post.blkX ?_)))
  have hEl1 : slices_Compact_int_l1 a0 (((a0.length : Int) - 1).toNat + 1) 1 = .go n3l1 := (by rw [← hQl1, slices_Compact_int_l1]; rw [if_neg c13])
  refine id (Post.thnN ?_)
  refine T.seq ?_
  refine T.region ?_
  refine R.mvE rfl (by conv => lhs; whnf) ?_
  refine R.asE rfl (by conv => lhs; whnf) ?_
  refine TL.nil (Post.thnN ?_)
  refine T.has (Has.cons .hd Has.nil) ?_
  refine T.ret ?_
  have hM : slices_Compact_int_m a0 = a0 := by rw [slices_Compact_int_m, if_neg c8, hEl1, LR.on_go]
  exact fin1L (v := .slice Aa0 a0.length pa0) [Ca0] rfl rfl (List.Sublist.refl _) ⟨.slice Aa0 a0.length pa0, Ca0, by first | rw [hM] | rfl, rfl, by rw [hM]; exact (OwnS.mono ha0 s_l1)⟩
theorem compi_l3 (a : List Int) (K : Nat) (hK : 1 ≤ K) : ∀ (r k k2 m : Nat) (cur : List Int), a.length - (K + k2) ≤ r → r < m → 1 ≤ k2 → K + k2 ≤ a.length → k + 1 ≤ K + k2 → cur.length = a.length → cur.take k = dd (a.take (K + k2)) → (∀ i, k ≤ i → cur.getD i 0 = a.getD i 0) →
    ∃ (k' : Nat) (cur' : List Int), ((slices_Compact_int_l3 a (K : Int) m ((k : Int), (k2 : Int), cur)).1 = (k' : Int) ∧ (slices_Compact_int_l3 a (K : Int) m ((k : Int), (k2 : Int), cur)).2.2 = cur') ∧ cur'.take k' = dd a
  | r, k, k2, 0, cur, _, h, _, _, _, _, _, _ => by omega
  | r, k, k2, m + 1, cur, h1, h2, h3, h4, h5, h6, h7, h8 => by
    have step : slices_Compact_int_l3 a (K : Int) (m + 1) ((k : Int), (k2 : Int), cur) = if (k2 : Int) < ((a.length - K : Nat) : Int) then (if cur.getD (K + k2) 0 ≠ cur.getD (K + ((k2 : Int) - 1).toNat) 0 then slices_Compact_int_l3 a (K : Int) m ((k : Int) + 1, (k2 : Int) + 1, cur.set k (cur.getD (K + k2) 0)) else slices_Compact_int_l3 a (K : Int) m ((k : Int), (k2 : Int) + 1, cur)) else ((k : Int), (k2 : Int), cur) := by
      rw [slices_Compact_int_l3, LR.seq_go]
      simp only [Int.toNat_natCast, decide_eq_true_eq]
    rw [step]
    by_cases hn : K + k2 < a.length
    · have g1 : cur.getD (K + k2) 0 = a.getD (K + k2) 0 := h8 _ (by omega)
      have g2 : cur.getD (K + ((k2 : Int) - 1).toNat) 0 = a.getD (K + k2 - 1) 0 := by rw [show K + ((k2 : Int) - 1).toNat = K + k2 - 1 by omega]; exact h8 _ (by omega)
      rw [if_pos (show (k2 : Int) < ((a.length - K : Nat) : Int) by omega), g1, g2]
      have hd := dd_take a (K + k2) (by omega) hn
      cases r with
      | zero => omega
      | succ r =>
        by_cases e : a.getD (K + k2) 0 = a.getD (K + k2 - 1) 0
        · rw [if_neg (fun q => q e)]
          rw [if_pos e, List.append_nil] at hd
          exact compi_l3 a K hK r k (k2 + 1) m cur (by omega) (by omega) (by omega) (by omega) (by omega) h6 (h7.trans hd.symm) h8
        · rw [if_pos e]
          rw [if_neg e, ← h7] at hd
          have hl : (cur.take k).length = k := by rw [List.length_take]; omega
          refine compi_l3 a K hK r (k + 1) (k2 + 1) m (cur.set k (a.getD (K + k2) 0)) (by omega) (by omega) (by omega) (by omega) (by omega) (by rw [List.length_set]; exact h6) ?_ (fun i hi => ?_)
          · rw [show K + (k2 + 1) = K + k2 + 1 by omega, hd, List.take_add_one, List.take_set_of_le (Nat.le_refl _), List.getElem?_set_self (by omega)]; rfl
          · rw [List.getD_eq_getElem?_getD, List.getElem?_set_ne (by omega), ← List.getD_eq_getElem?_getD]; exact h8 i (by omega)
    · rw [if_neg (show ¬ (k2 : Int) < ((a.length - K : Nat) : Int) by omega)]
      refine ⟨k, cur, ⟨rfl, rfl⟩, ?_⟩
      rw [h7, List.take_of_length_le (by omega)]
theorem compi_l1 (a : List Int) : ∀ (r k m : Nat), a.length - k ≤ r → r < m → 1 ≤ k → k ≤ a.length → dd (a.take k) = a.take k → LR.on (slices_Compact_int_l1 a m (k : Int)) (fun r => r) (fun _ => a) = dd a
  | r, k, 0, _, h, _, _, _ => by omega
  | r, k, m + 1, h1, h2, h3, h4, h5 => by
    rw [slices_Compact_int_l1]
    dsimp only [LR.seq, Int.toNat_natCast]
    by_cases hn : k < a.length
    · rw [if_pos (show (k : Int) < (a.length : Int) by omega), show ((k : Int) - 1).toNat = k - 1 by omega]
      have hd := dd_take a k h3 hn
      by_cases e : a.getD k 0 = a.getD (k - 1) 0
      · rw [if_pos (decide_eq_true e), LR.on_ret]
        rw [if_pos e, List.append_nil, h5] at hd
        obtain ⟨k', cur', ⟨q1, q2⟩, q3⟩ := compi_l3 a k h3 (a.length - (k + 1)) k 1 (((a.length : Int) - 1).toNat + 1) a (Nat.le_refl _) (by omega) (Nat.le_refl _) (by omega) (by omega) rfl hd.symm (fun i _ => rfl)
        change (slices_Compact_int_l3 a (k : Int) (((a.length : Int) - 1).toNat + 1) ((k : Int), (1 : Int), a)).1 = (k' : Int) at q1
        change (slices_Compact_int_l3 a (k : Int) (((a.length : Int) - 1).toNat + 1) ((k : Int), (1 : Int), a)).2.2 = cur' at q2
        rw [q1, q2, Int.toNat_natCast, List.take_take, Nat.min_self]; exact q3
      · rw [if_neg (by rw [decide_eq_true_eq]; exact e)]
        rw [if_neg e, h5] at hd
        cases r with
        | zero => omega
        | succ r => exact compi_l1 a r (k + 1) m (by omega) (by omega) (by omega) (by omega) (by rw [hd, List.take_add_one, List.getD_eq_getElem?_getD, List.getElem?_eq_getElem hn]; rfl)
    · rw [if_neg (show ¬ (k : Int) < (a.length : Int) by omega), LR.on_go]
      rw [List.take_of_length_le (by omega)] at h5; exact h5.symm
theorem compi_eq (a : List Int) : slices_Compact_int_m a = dd a := by
  unfold slices_Compact_int_m
  by_cases h : a.length < 2
  · rw [if_pos (by omega)]
    match a, h with
    | [], _ => rfl
    | [x], _ => rfl
  · rw [if_neg (by omega)]
    refine compi_l1 a (a.length - 1) 1 _ (Nat.le_refl _) (by omega) (Nat.le_refl _) (by omega) ?_
    cases a with
    | nil => rfl
    | cons x l => rfl
def windroselaw14_IndexPatterns_l2 (yl1 : Int × (List Int)) : List (Int × (List Int)) → ((List Int)) → (List Int)
  | [], sl2 => sl2
  | yl2 :: ysl2, sl2 => LR.seq (if ((kindG yl2.1) : Int) = 3 then ((ident_Takes_m yl1.1 yl2.1)) else false : Bool) (fun sc3 => if sc3 = true then (windroselaw14_IndexPatterns_l2 yl1 ysl2 ((sl2 ++ yl2.2))) else (windroselaw14_IndexPatterns_l2 yl1 ysl2 sl2))
def windroselaw14_IndexPatterns_l1 (r12 : ((List (Int × (List Int))))) : List (Int × (List Int)) → Unit → LR (Bool) (Unit)
  | [], sl1 => .go ()
  | yl1 :: ysl1, sl1 => if ((kindG yl1.1) : Int) ≠ 4 then (windroselaw14_IndexPatterns_l1 r12 ysl1 ()) else (LR.seq (windroselaw14_IndexPatterns_l2 yl1 r12 []) (fun ol2 => LR.seq (index_Find_m r12 yl1.1) (fun r55 => LR.seq (slices_Compact_int_m ((sortI ol2))) (fun r57 => if ¬ (r55 = r57) then (.ret false) else (windroselaw14_IndexPatterns_l1 r12 ysl1 ())))))
def windroselaw14_IndexPatterns_m (a0 : (List (Int × (List Int)))) : Bool :=
  if (!windroselaw14_wakes_m) = true then false else (LR.seq (windroselaw14_own_m a0) (fun r12 => if ((index_Check_m r12) : Int) ≠ 0 then true else (LR.on (windroselaw14_IndexPatterns_l1 r12 r12 ()) (fun r => r) (fun ol1 => true))))
set_option maxHeartbeats 3200000 in
theorem windroselaw14_IndexPatterns_c (H : Heap) (a0 : (List (Int × (List Int)))) (va0_0 : Value) (ha0_0 : RdS listedE H va0_0 a0) : Fv Try.prog (fnv 5) [.agg #[va0_0]] H (.bool (windroselaw14_IndexPatterns_m a0)) := by
  refine Fc.of_body (N := 61) Try.func5 rfl (by kernel_rfl) rfl rfl ?_
  intro w0
  obtain ⟨Aa0_0, ca0_0, rfl, hca0_0, hda0_0, ha0_0⟩ := ha0_0.shape
  refine T.seq ?_
  refine T.region ?_
  refine R.box rfl (by conv => lhs; whnf) ?_
  intro b1
  refine R.asE rfl (by conv => lhs; whnf) ?_
  refine TL.shut .hd ?_
  intro Hb1_1 sb1_1 qb1_1
  have hb1_1 : Hb1_1 b1 = some (.cells #[.slice Aa0_0 a0.length ca0_0] 46) := shut1 qb1_1
  refine TL.nil (Post.thnN ?_)
  refine T.seq ?_
  refine T.seq ?_
  refine T.region ?_
  refine R.callv rfl rfl rfl (windroselaw14_wakes_c _ ) ?_
  refine R.not rfl rfl ?_
  refine TL.nil (Post.thnN ?_)
  refine T.cond rfl (fun c10 => ?_) (fun c10 => ?_)
  · refine T.set 10 (.bool true) (congrArg Value.bool c10) ?_
    refine T.seq ?_
    refine T.region ?_
    refine R.asE rfl (by conv => lhs; whnf) ?_
    refine TL.nil (Post.thnN ?_)
    refine T.has Has.nil ?_
    refine T.ret (Post.thnR ?_)
    have hM : windroselaw14_IndexPatterns_m a0 = false := by rw [windroselaw14_IndexPatterns_m, if_t c10]
    exact fin1L (v := .bool false) [] rfl rfl (List.Sublist.refl _) ⟨rfl, by first | rw [hM] | rfl⟩
  refine T.set 10 (.bool false) (congrArg Value.bool c10) ?_
  refine T.skip (Post.thnN ?_)
  refine T.seq ?_
  refine T.region ?_
  refine R.ldXH (cs := [.slice Aa0_0 a0.length ca0_0]) (l := [.slice Aa0_0 a0.length ca0_0]) Try.isAgg46 Try.sizeOf46 rfl rfl hb1_1 rfl rfl ?_
  obtain ⟨r12, er12⟩ : ∃ r, r = (windroselaw14_own_m a0) := ⟨_, rfl⟩
  refine TL.call [] rfl rfl rfl (windroselaw14_own_c _ a0 _ (ha0_0.mono sb1_1)) ?_
  intro v12 H12 L12 s12 q12
  rw [← er12] at q12
  obtain ⟨u12_0_0, c12_0_0, rfl, rfl, w12_0_0⟩ := q12
  obtain ⟨A12_0_0, p12_0_0, rfl, m12_0_0, n12_0_0⟩ := OwnS.shape w12_0_0
  have tow12 := own_len _ _ er12
  have toa12 := tow12.1
  have tob12 := tow12.2
  refine R.alloc Try.zeroValue46 rfl ?_
  intro b3
  refine R.stX (old := [.slice none 0 0]) (l := [.slice A12_0_0 r12.length p12_0_0]) (new := [.slice A12_0_0 r12.length p12_0_0]) (et := 46) Try.sizeOf46 rfl rfl rfl rfl rfl (by show 0 + 1 ≤ 1; decide) rfl (all_one rfl) .hd ?_
  refine TL.shut (.tl .hd) ?_
  intro HF12_0_0_2 sF12_0_0_2 qF12_0_0_2
  have fF12_0_0_2 := OwnS.read w12_0_0 sF12_0_0_2 qF12_0_0_2
  refine TL.shut .hd ?_
  intro Hb3_3 sb3_3 qb3_3
  have hb3_3 : Hb3_3 b3 = some (.cells #[.slice A12_0_0 r12.length p12_0_0] 46) := shut1 qb3_3
  refine TL.nil (Post.thnN ?_)
  refine T.seq ?_
  refine T.seq ?_
  refine T.region ?_
  refine R.ldXH (cs := [.slice A12_0_0 r12.length p12_0_0]) (l := [.slice A12_0_0 r12.length p12_0_0]) Try.isAgg46 Try.sizeOf46 rfl rfl hb3_3 rfl rfl ?_
  refine R.callv rfl rfl rfl (index_Check_c _ r12 _ (fF12_0_0_2.mono sb3_3) (by first | omega | assumption | (simp; done) | (simp; omega) | (simp at *; omega)) (by first | assumption | exact rows_le (by assumption) (by omega) | (intro r h; simp at h; done))) ?_
  refine R.neq rfl rfl rfl ?_
  refine TL.nil (Post.thnN ?_)
  refine T.condD rfl (fun c15 => ?_) (fun c15 => ?_)
  · refine T.set 15 (.bool true) (congrArg Value.bool (decide_eq_true c15)) ?_
    refine T.seq ?_
    refine T.region ?_
    refine R.asE rfl (by conv => lhs; whnf) ?_
    refine TL.nil (Post.thnN ?_)
    refine T.has Has.nil ?_
    refine T.ret (Post.thnR ?_)
    have hM : windroselaw14_IndexPatterns_m a0 = true := by subst er12; rw [windroselaw14_IndexPatterns_m, if_f c10, LR.seq_go, if_pos c15]
    exact fin1L (v := .bool true) [] rfl rfl (List.Sublist.refl _) ⟨rfl, by first | rw [hM] | rfl⟩
  refine T.set 15 (.bool false) (congrArg Value.bool (decide_eq_false c15)) ?_
  refine T.skip (Post.thnN ?_)
  refine T.seq ?_
  refine T.seq ?_
  refine T.region ?_
  refine R.fldA Try.underlying46 rfl Try.sizeOf44 (by decide) rfl rfl ?_
  refine R.ldH Try.isAgg44 rfl rfl hb3_3 rfl ?_
  refine R.len Try.underlying44 rfl rfl ?_
  refine R.mvE rfl (by conv => lhs; whnf) ?_
  refine TL.nil (Post.thnN ?_)
  refine T.block ?_
  refine T.loop (ι := Nat) (fun kl1 H' L' ds' => kl1 ≤ r12.length ∧ Has L' [] ∧ windroselaw14_IndexPatterns_l1 r12 (r12.drop kl1) () = windroselaw14_IndexPatterns_l1 r12 r12 ()) (fun kl1 => [(19, .int .i64 (kl1 : Int)), (3, .pointer (some ⟨b3, 0, none⟩)), (17, .slice A12_0_0 r12.length p12_0_0), (18, .int .i64 (r12.length : Int))]) (fun kl1 => r12.length - kl1) 0 ?_ ?_ ?_
  · exact ⟨(by omega), Has.nil, (by rfl)⟩
  · exact ⟨rfl, rfl, rfl, rfl, trivial⟩
  intro kl1 σ_l1 H_l1 L_l1 ds_l1 s_l1 hI_l1
  obtain ⟨hkl1, hI_l1⟩ := hI_l1
  obtain ⟨hLl1, hQl1⟩ := hI_l1
  refine T.has hLl1 ?_
  refine T.seq ?_
  refine T.region ?_
  refine R.lss rfl rfl rfl ?_
  refine TL.nil (Post.thnN ?_)
  refine T.seq ?_
  refine T.condD rfl (fun c20 => ?_) (fun c20 => ?_)
  · have hltl1 : kl1 < r12.length := by omega
    obtain ⟨yl1, hyl1⟩ := getk (xs := r12) (k := kl1) (by omega)
    refine T.skip (Post.thnN ?_)
    refine T.seq ?_
    refine T.block ?_
    refine T.seq ?_
    refine T.region ?_
    obtain ⟨b21, o21, i21, k21⟩ := RdS.elem (fF12_0_0_2.mono (sb3_3.trans s_l1)) hyl1
    obtain ⟨l21, g21, k21⟩ := k21
    obtain ⟨z21_1, rfl, r21_1⟩ := g21
    obtain ⟨A21_1, p21_1, rfl, m21_1, n21_1, r21_1⟩ := r21_1.shape
    refine R.ixp Try.underlying44 Try.sizeOf55 rfl rfl rfl (by omega) i21 ?_
    refine R.ldK (l := [.int .u64 (yl1.1), .slice A21_1 yl1.2.length p21_1]) Try.isAgg55 Try.sizeOf55 rfl rfl k21 rfl ?_
    refine R.alloc Try.zeroValue55 rfl ?_
    intro b5
    refine R.stX (old := [.int .u64 0, .slice none 0 0]) (l := [.int .u64 (yl1.1), .slice A21_1 yl1.2.length p21_1]) (new := [.int .u64 (yl1.1), .slice A21_1 yl1.2.length p21_1]) (et := 55) Try.sizeOf55 rfl rfl rfl rfl rfl (by show 0 + 2 ≤ 2; decide) rfl (all_one rfl) .hd ?_
    refine TL.shut .hd ?_
    intro Hb5_4 sb5_4 qb5_4
    have hb5_4 : Hb5_4 b5 = some (.cells #[.int .u64 (yl1.1), .slice A21_1 yl1.2.length p21_1] 55) := shut1 qb5_4
    refine TL.nil (Post.thnN ?_)
    refine T.seq ?_
    refine T.seq ?_
    refine T.region ?_
    refine R.fldA Try.underlying55 rfl Try.sizeOf26 (by decide) rfl rfl ?_
    refine R.ldH Try.isAgg26 rfl rfl hb5_4 rfl ?_
    refine R.callv rfl rfl rfl (kindG_c _ yl1.1) ?_
    refine R.neq rfl rfl rfl ?_
    refine TL.nil (Post.thnN ?_)
    refine T.condD rfl (fun c26 => ?_) (fun c26 => ?_)
    · refine T.set 26 (.bool true) (congrArg Value.bool (decide_eq_true c26)) ?_
      refine T.exit (Post.thnE (Post.blkX ?_))
      refine id (Post.thnN ?_)
      refine T.region ?_
      refine R.addI rfl rfl rfl (by omega) ?_
      refine R.mvE rfl (by conv => lhs; whnf) ?_
      refine TL.nil (Post.thnN ?_)
      exact ⟨kl1 + 1, (s_l1.trans sb5_4), ⟨(by omega), Has.nil, (by rw [← hQl1, drop_cons hyl1, windroselaw14_IndexPatterns_l1]; rw [if_pos c26])⟩, by show r12.length - (kl1 + 1) < r12.length - kl1; omega, rfl, rfl, rfl, rfl, trivial⟩
    refine T.set 26 (.bool false) (congrArg Value.bool (decide_eq_false c26)) ?_
    refine T.skip (Post.thnN ?_)
    refine T.seq ?_
    refine T.region ?_
    refine R.asE rfl (by conv => lhs; whnf) ?_
    refine TL.nil (Post.thnN ?_)
    refine T.seq ?_
    refine T.seq ?_
    refine T.region ?_
    refine R.fldA Try.underlying46 rfl Try.sizeOf44 (by decide) rfl rfl ?_
    refine R.ldH Try.isAgg44 rfl rfl ((s_l1.trans sb5_4) _ _ hb3_3) rfl ?_
    refine R.len Try.underlying44 rfl rfl ?_
    refine R.mvE rfl (by conv => lhs; whnf) ?_
    refine TL.nil (Post.thnN ?_)
    refine T.block ?_
    refine T.loop (ι := Nat × Value × (List Int) × Chunk) (fun ⟨kl2, v6l2, x6l2, c6l2⟩ H' L' ds' => kl2 ≤ r12.length ∧ Has L' [c6l2] ∧ OwnS (intE .i64) 3 H' v6l2 x6l2 c6l2 ∧ x6l2.length ≤ 12 * kl2 ∧ windroselaw14_IndexPatterns_l2 yl1 (r12.drop kl2) x6l2 = windroselaw14_IndexPatterns_l2 yl1 r12 []) (fun ⟨kl2, v6l2, x6l2, c6l2⟩ => [(30, .int .i64 (kl2 : Int)), (3, .pointer (some ⟨b3, 0, none⟩)), (5, .pointer (some ⟨b5, 0, none⟩)), (6, v6l2), (17, .slice A12_0_0 r12.length p12_0_0), (18, .int .i64 (r12.length : Int)), (19, .int .i64 (kl1 : Int)), (28, .slice A12_0_0 r12.length p12_0_0), (29, .int .i64 (r12.length : Int))]) (fun ⟨kl2, v6l2, x6l2, c6l2⟩ => r12.length - kl2) (0, .slice none 0 0, [], []) ?_ ?_ ?_
    · exact ⟨(by omega), (Has.none Has.nil), OwnS.nil, (by first | omega | (simp; done) | (simp; omega) | (simp at *; omega)), (by rfl)⟩
    · exact ⟨rfl, rfl, rfl, rfl, rfl, rfl, rfl, rfl, rfl, trivial⟩
    intro ⟨kl2, v6l2, x6l2, c6l2⟩ σ_l2 H_l2 L_l2 ds_l2 s_l2 hI_l2
    obtain ⟨hkl2, hI_l2⟩ := hI_l2
    obtain ⟨hLl2, w6l2, hBl2_0, hQl2⟩ := hI_l2
    obtain ⟨A6l2, p6l2, rfl, m6l2, n6l2_⟩ := OwnS.shape w6l2
    refine T.has hLl2 ?_
    refine T.seq ?_
    refine T.region ?_
    refine R.lss rfl rfl rfl ?_
    refine TL.nil (Post.thnN ?_)
    refine T.seq ?_
    refine T.condD rfl (fun c31 => ?_) (fun c31 => ?_)
    · have hltl2 : kl2 < r12.length := by omega
      obtain ⟨yl2, hyl2⟩ := getk (xs := r12) (k := kl2) (by omega)
      have hrow := tob12 yl2 (List.mem_of_getElem? hyl2)
      refine T.skip (Post.thnN ?_)
      refine T.seq ?_
      refine T.block ?_
      refine T.seq ?_
      refine T.region ?_
      obtain ⟨b32, o32, i32, k32⟩ := RdS.elem (fF12_0_0_2.mono (sb3_3.trans (s_l1.trans (sb5_4.trans s_l2)))) hyl2
      obtain ⟨l32, g32, k32⟩ := k32
      obtain ⟨z32_1, rfl, r32_1⟩ := g32
      obtain ⟨A32_1, p32_1, rfl, m32_1, n32_1, r32_1⟩ := r32_1.shape
      refine R.ixp Try.underlying44 Try.sizeOf55 rfl rfl rfl (by omega) i32 ?_
      refine R.ldK (l := [.int .u64 (yl2.1), .slice A32_1 yl2.2.length p32_1]) Try.isAgg55 Try.sizeOf55 rfl rfl k32 rfl ?_
      refine R.alloc Try.zeroValue55 rfl ?_
      intro b8
      refine R.stX (old := [.int .u64 0, .slice none 0 0]) (l := [.int .u64 (yl2.1), .slice A32_1 yl2.2.length p32_1]) (new := [.int .u64 (yl2.1), .slice A32_1 yl2.2.length p32_1]) (et := 55) Try.sizeOf55 rfl rfl rfl rfl rfl (by show 0 + 2 ≤ 2; decide) rfl (all_one rfl) .hd ?_
      refine TL.shut .hd ?_
      intro Hb8_5 sb8_5 qb8_5
      have hb8_5 : Hb8_5 b8 = some (.cells #[.int .u64 (yl2.1), .slice A32_1 yl2.2.length p32_1] 55) := shut1 qb8_5
      refine TL.nil (Post.thnN ?_)
      refine T.seq ?_
      refine T.cutK (ι := Bool) (fun b44c3 H' L' ds' => Has L' [c6l2] ∧ (if ((kindG yl2.1) : Int) = 3 then ((ident_Takes_m yl1.1 yl2.1)) else false : Bool) = b44c3) (fun b44c3 => [(3, .pointer (some ⟨b3, 0, none⟩)), (5, .pointer (some ⟨b5, 0, none⟩)), (6, .slice A6l2 x6l2.length p6l2), (8, .pointer (some ⟨b8, 0, none⟩)), (17, .slice A12_0_0 r12.length p12_0_0), (18, .int .i64 (r12.length : Int)), (19, .int .i64 (kl1 : Int)), (28, .slice A12_0_0 r12.length p12_0_0), (29, .int .i64 (r12.length : Int)), (30, .int .i64 (kl2 : Int)), (44, .bool (b44c3))]) ?_ ?_
      · refine T.region ?_
        refine R.fldA Try.underlying55 rfl Try.sizeOf26 (by decide) rfl rfl ?_
        refine R.ldH Try.isAgg26 rfl rfl hb8_5 rfl ?_
        refine R.callv rfl rfl rfl (kindG_c _ yl2.1) ?_
        refine R.eql rfl rfl rfl ?_
        refine R.mvE rfl (by conv => lhs; whnf) ?_
        refine TL.gsplitD 38 rfl (fun g38 => ?_) (fun g38 => ?_)
        · refine R.fldA Try.underlying55 rfl Try.sizeOf26 (by decide) rfl rfl ?_
          refine R.ldH Try.isAgg26 rfl rfl ((s_l2.trans sb8_5) _ _ hb5_4) rfl ?_
          refine R.fldA Try.underlying55 rfl Try.sizeOf26 (by decide) rfl rfl ?_
          refine R.ldH Try.isAgg26 rfl rfl hb8_5 rfl ?_
          refine R.callv rfl rfl rfl (ident_Takes_c _ (yl1.1) (yl2.1)) ?_
          refine R.pkTE rfl rfl (by conv => lhs; whnf) ?_
          refine TL.nil (Post.thnN ?_)
          exact ⟨(ident_Takes_m yl1.1 yl2.1), HLe.refl _, ⟨(Has.cons .hd Has.nil), (by rw [if_pos g38])⟩, rfl, rfl, rfl, rfl, rfl, rfl, rfl, rfl, rfl, rfl, rfl, trivial⟩
        refine TL.off rfl rfl rfl ?_
        refine TL.off rfl rfl rfl ?_
        refine TL.off rfl rfl rfl ?_
        refine TL.off rfl rfl rfl ?_
        refine TL.off rfl rfl rfl ?_
        refine R.pkFE rfl rfl (by conv => lhs; whnf) ?_
        refine TL.nil (Post.thnN ?_)
        exact ⟨false, HLe.refl _, ⟨(Has.cons .hd Has.nil), (by rw [if_neg g38])⟩, rfl, rfl, rfl, rfl, rfl, rfl, rfl, rfl, rfl, rfl, rfl, trivial⟩
      intro b44c3 σ_c3 H_c3 L_c3 ds_c3 s_c3 hI_c3
      obtain ⟨hLc3, hTc3⟩ := hI_c3
      refine T.has hLc3 ?_
      refine T.cond rfl (fun c44 => ?_) (fun c44 => ?_)
      · refine T.set 44 (.bool true) (congrArg Value.bool c44) ?_
        have hZ44 := hTc3.trans c44
        try simp only [or_f, or_t, and_f, and_t, decide_eq_true_eq, decide_eq_false_iff_not, Bool.not_eq_true'] at hZ44
        refine T.region ?_
        refine R.mvE rfl (by conv => lhs; whnf) ?_
        refine R.fldA Try.underlying55 rfl Try.sizeOf37 (by decide) rfl rfl ?_
        refine R.ldH Try.isAgg37 rfl rfl (s_c3 _ _ hb8_5) rfl ?_
        obtain ⟨k48, y48, r48⟩ := Src.rdA (r32_1.mono (sb8_5.trans s_c3))
        refine R.app (E := (intE .i64)) (e := 3) (xs := x6l2) (ys := yl2.2) Try_ty37 rfl rfl rfl (OwnS.mono w6l2 (sb8_5.trans s_c3)) .hd (r48 _) y48 (by (try simp only [List.length_append, List.length_cons, List.length_nil, List.length_replicate, List.length_take, List.length_drop]); omega) (by (try simp only [List.length_append, List.length_cons, List.length_nil, List.length_replicate, List.length_take, List.length_drop]); omega) ?_
        intro v48 c48 w48
        obtain ⟨A48, p48, rfl, m48, n48⟩ := OwnS.shape w48
        refine R.asE rfl (by conv => lhs; whnf) ?_
        refine TL.nil (Post.blkN ?_)
        refine id (Post.thnN ?_)
        refine T.region ?_
        refine R.addI rfl rfl rfl (by omega) ?_
        refine R.mvE rfl (by conv => lhs; whnf) ?_
        refine TL.nil (Post.thnN ?_)
        exact ⟨(kl2 + 1, .slice A48 (x6l2 ++ yl2.2).length p48, (x6l2 ++ yl2.2), c48), (s_l2.trans (sb8_5.trans s_c3)), ⟨(by omega), (Has.cons .hd Has.nil), w48, (by first | omega | (simp; done) | (simp; omega) | (simp at *; omega)), (by rw [← hQl2, drop_cons hyl2, windroselaw14_IndexPatterns_l2]; rw [hTc3, LR.seq_go, if_t c44])⟩, by show r12.length - (kl2 + 1) < r12.length - kl2; omega, rfl, rfl, rfl, rfl, rfl, rfl, rfl, rfl, rfl, trivial⟩
      refine T.set 44 (.bool false) (congrArg Value.bool c44) ?_
      have hZ44 := hTc3.trans c44
      try simp only [or_f, or_t, and_f, and_t, decide_eq_true_eq, decide_eq_false_iff_not, Bool.not_eq_true'] at hZ44
      refine T.skip (Post.blkN ?_)
      refine id (Post.thnN ?_)
      refine T.region ?_
      refine R.addI rfl rfl rfl (by omega) ?_
      refine R.mvE rfl (by conv => lhs; whnf) ?_
      refine TL.nil (Post.thnN ?_)
      exact ⟨(kl2 + 1, .slice A6l2 x6l2.length p6l2, x6l2, c6l2), (s_l2.trans (sb8_5.trans s_c3)), ⟨(by omega), (Has.cons .hd Has.nil), (OwnS.mono w6l2 (sb8_5.trans s_c3)), (by first | omega | (simp; done) | (simp; omega) | (simp at *; omega)), (by rw [← hQl2, drop_cons hyl2, windroselaw14_IndexPatterns_l2]; rw [hTc3, LR.seq_go, if_f c44])⟩, by show r12.length - (kl2 + 1) < r12.length - kl2; omega, rfl, rfl, rfl, rfl, rfl, rfl, rfl, rfl, rfl, trivial⟩
    refine T.exit (Post.thnE (Post.thnE (Post.blkX ?_)))
    have hEl2 : windroselaw14_IndexPatterns_l2 yl1 r12 [] = x6l2 := (hQl2.symm.trans (by rw [show kl2 = r12.length by omega, List.drop_length, windroselaw14_IndexPatterns_l2]))
    refine id (Post.thnN ?_)
    refine T.seq ?_
    refine T.region ?_
    refine R.mvE rfl (by conv => lhs; whnf) ?_
    refine TL.call [true] rfl rfl rfl (sortA_c _ _ _ _ w6l2 (by first | omega | (simp; done) | (simp; omega) | (simp at *; omega))) ?_
    intro v51 H51 L51 s51 q51
    obtain ⟨rfl, c51, rfl, w51⟩ := q51
    refine TL.nil (Post.thnN ?_)
    refine T.seq ?_
    refine T.region ?_
    refine R.ldXH (cs := [.slice A12_0_0 r12.length p12_0_0]) (l := [.slice A12_0_0 r12.length p12_0_0]) Try.isAgg46 Try.sizeOf46 rfl rfl ((s_l1.trans (sb5_4.trans s_l2)) _ _ hb3_3) rfl rfl ?_
    refine R.fldA Try.underlying55 rfl Try.sizeOf26 (by decide) rfl rfl ?_
    refine R.ldH Try.isAgg26 rfl rfl (s_l2 _ _ hb5_4) rfl ?_
    obtain ⟨r55, er55⟩ : ∃ r, r = (index_Find_m r12 yl1.1) := ⟨_, rfl⟩
    refine TL.call [] rfl rfl rfl (index_Find_c _ r12 _ (fF12_0_0_2.mono (sb3_3.trans (s_l1.trans (sb5_4.trans s_l2)))) (yl1.1) (by first | omega | assumption | (simp; done) | (simp; omega) | (simp at *; omega)) (by first | assumption | exact rows_le (by assumption) (by omega) | (intro r h; simp at h; done))) ?_
    intro v55 H55 L55 s55 q55
    rw [← er55] at q55
    obtain ⟨u55_0_0, c55_0_0, rfl, rfl, w55_0_0⟩ := q55
    obtain ⟨A55_0_0, p55_0_0, rfl, m55_0_0, n55_0_0⟩ := OwnS.shape w55_0_0
    refine R.mvE rfl (by conv => lhs; whnf) ?_
    refine TL.has (Has.cons (.tl .hd) (Has.cons .hd Has.nil)) ?_
    obtain ⟨r57, er57⟩ : ∃ r, r = (slices_Compact_int_m ((sortI x6l2))) := ⟨_, rfl⟩
    refine TL.call [true] rfl rfl rfl (slices_Compact_int_c _ _ ((sortI x6l2)) _ (OwnS.mono w51 s55) (by rw [(sortI_perm _).length_eq]; omega)) ?_
    intro v57 H57 L57 s57 q57
    rw [← er57] at q57
    obtain ⟨u57_0_0, c57_0_0, rfl, rfl, w57_0_0⟩ := q57
    obtain ⟨A57_0_0, p57_0_0, rfl, m57_0_0, n57_0_0⟩ := OwnS.shape w57_0_0
    refine TL.shut (.tl .hd) ?_
    intro HF55_0_0_6 sF55_0_0_6 qF55_0_0_6
    have fF55_0_0_6 := OwnS.read (OwnS.mono w55_0_0 s57) sF55_0_0_6 qF55_0_0_6
    refine TL.shut .hd ?_
    intro HF57_0_0_7 sF57_0_0_7 qF57_0_0_7
    have fF57_0_0_7 := OwnS.read (OwnS.mono w57_0_0 sF55_0_0_6) sF57_0_0_7 qF57_0_0_7
    refine R.callv rfl rfl rfl (slices_Equal_int_d _ _ r55 (fF55_0_0_6.mono sF57_0_0_7) _ r57 fF57_0_0_7) ?_
    refine R.notD rfl rfl ?_
    refine TL.nil (Post.thnN ?_)
    refine T.condD rfl (fun c59 => ?_) (fun c59 => ?_)
    · refine T.set 59 (.bool true) (congrArg Value.bool (decide_eq_true c59)) ?_
      refine T.seq ?_
      refine T.region ?_
      refine R.asE rfl (by conv => lhs; whnf) ?_
      refine TL.nil (Post.thnN ?_)
      refine T.has Has.nil ?_
      refine T.ret (Post.blkR (Post.thnR (Post.thnR (Post.blkR (Post.thnR ?_)))))
      have hXl1 : windroselaw14_IndexPatterns_l1 r12 r12 () = .ret false := by subst er57; subst er55; rw [← hQl1, drop_cons hyl1, windroselaw14_IndexPatterns_l1]; rw [if_neg c26, hEl2, LR.seq_go, LR.seq_go, LR.seq_go, if_pos c59]
      have hM : windroselaw14_IndexPatterns_m a0 = false := by subst er12; rw [windroselaw14_IndexPatterns_m, if_f c10, LR.seq_go, if_neg c15, hXl1, LR.on_ret]
      exact fin1L (v := .bool false) [] rfl rfl (List.Sublist.refl _) ⟨rfl, by first | rw [hM] | rfl⟩
    refine T.set 59 (.bool false) (congrArg Value.bool (decide_eq_false c59)) ?_
    refine T.skip (Post.blkN ?_)
    refine id (Post.thnN ?_)
    refine T.region ?_
    refine R.addI rfl rfl rfl (by omega) ?_
    refine R.mvE rfl (by conv => lhs; whnf) ?_
    refine TL.nil (Post.thnN ?_)
    exact ⟨kl1 + 1, (s_l1.trans (sb5_4.trans (s_l2.trans (s55.trans (s57.trans (sF55_0_0_6.trans sF57_0_0_7)))))), ⟨(by omega), Has.nil, (by subst er57; subst er55; rw [← hQl1, drop_cons hyl1, windroselaw14_IndexPatterns_l1]; rw [if_neg c26, hEl2, LR.seq_go, LR.seq_go, LR.seq_go, if_neg c59])⟩, by show r12.length - (kl1 + 1) < r12.length - kl1; omega, rfl, rfl, rfl, rfl, trivial⟩
  refine T.exit (Post.thnE (Post.thnE (Post.blkX ?_)))
  have hEl1 : windroselaw14_IndexPatterns_l1 r12 r12 () = .go () := (hQl1.symm.trans (by rw [show kl1 = r12.length by omega, List.drop_length, windroselaw14_IndexPatterns_l1]))
  refine id (Post.thnN ?_)
  refine T.seq ?_
  refine T.region ?_
  refine R.asE rfl (by conv => lhs; whnf) ?_
  refine TL.nil (Post.thnN ?_)
  refine T.has Has.nil ?_
  refine T.ret ?_
  have hM : windroselaw14_IndexPatterns_m a0 = true := by subst er12; rw [windroselaw14_IndexPatterns_m, if_f c10, LR.seq_go, if_neg c15, hEl1, LR.on_go]
  exact fin1L (v := .bool true) [] rfl rfl (List.Sublist.refl _) ⟨rfl, by first | rw [hM] | rfl⟩
end Go.SX

set_option linter.unusedVariables false
set_option linter.unusedSimpArgs false
namespace Go.SX
open Go
theorem ip_l2_mem (r : Int × List Int) (n : Int) : ∀ (l : Ix) (a : List Int), n ∈ windroselaw14_IndexPatterns_l2 r l a ↔ n ∈ a ∨ ∃ s ∈ l, (kindG s.1 = 3 ∧ ident_Takes_m r.1 s.1 = true) ∧ n ∈ s.2
  | [], a => by simp [windroselaw14_IndexPatterns_l2]
  | s :: l, a => by
    rw [windroselaw14_IndexPatterns_l2, LR.seq_go]
    have hb : (if kindG s.1 = 3 then ident_Takes_m r.1 s.1 else false) = true ↔ kindG s.1 = 3 ∧ ident_Takes_m r.1 s.1 = true := by
      by_cases h : kindG s.1 = 3
      · rw [if_pos h]; exact ⟨fun q => ⟨h, q⟩, fun q => q.2⟩
      · rw [if_neg h]; exact ⟨fun q => (by cases q), fun q => absurd q.1 h⟩
    by_cases h : kindG s.1 = 3 ∧ ident_Takes_m r.1 s.1 = true
    · rw [if_pos (hb.2 h), ip_l2_mem r n l, List.mem_append]
      constructor
      · rintro ((q | q) | ⟨z, hz, q⟩)
        · exact .inl q
        · exact .inr ⟨s, List.mem_cons_self .., h, q⟩
        · exact .inr ⟨z, List.mem_cons_of_mem _ hz, q⟩
      · rintro (q | ⟨z, hz, q⟩)
        · exact .inl (.inl q)
        · rcases List.mem_cons.1 hz with rfl | hz
          · exact .inl (.inr q.2)
          · exact .inr ⟨z, hz, q⟩
    · rw [if_neg (fun q => h (hb.1 q)), ip_l2_mem r n l]
      constructor
      · rintro (q | ⟨z, hz, q⟩)
        · exact .inl q
        · exact .inr ⟨z, List.mem_cons_of_mem _ hz, q⟩
      · rintro (q | ⟨z, hz, q⟩)
        · exact .inl q
        · rcases List.mem_cons.1 hz with rfl | hz
          · exact absurd q.1 h
          · exact .inr ⟨z, hz, q⟩
theorem ip_l1 {x : Ix} (h : RightI x) (hu : ∀ r ∈ x, U r.1) (hl : x.length ≤ 2000000) : ∀ (l : Ix), (∀ r ∈ l, r ∈ x) → windroselaw14_IndexPatterns_l1 x l () = .go ()
  | [], _ => rfl
  | r :: l, hx => by
    have hr := hx r (List.mem_cons_self ..)
    have ih := ip_l1 h hu hl l (fun q hq => hx q (List.mem_cons_of_mem _ hq))
    rw [windroselaw14_IndexPatterns_l1]
    by_cases hk : kindG r.1 = 4
    · rw [if_neg (fun q => q hk)]
      simp only [LR.seq_go]
      rw [if_neg, ih]
      rw [Decidable.not_not, find_eq h hl, findA_mem h.up hr, compi_eq]
      symm
      refine dd_sort_ext (h.rows r hr).up (fun n => ?_)
      rw [ip_l2_mem]
      have ur := hu r hr
      have hk' : kindI r.1 = 4 := by rw [← kind_i ur]; exact hk
      rw [← inA_row h.up hr n, inA_keys h hu n r.1]
      constructor
      · rintro (q | ⟨s, hs, ⟨k3, ht⟩, hn⟩)
        · cases q
        · have us := hu s hs
          refine ⟨s.1, bareA_mem.2 ⟨(inA_row h.up hs n).2 hn, by omega⟩, .inr ((takes_pats ur hk' us).1 ht)⟩
      · rintro ⟨z, hz, q⟩
        obtain ⟨hz1, hz2⟩ := bareA_mem.1 hz
        obtain ⟨s, hs, hn, e⟩ := inA_mem.1 hz1
        subst e
        have us := hu s hs
        rcases q with q | q
        · rw [← q] at hz2; exact absurd hk hz2
        · refine .inr ⟨s, hs, ⟨by rw [kind_i us]; exact q.1, (takes_pats ur hk' us).2 q⟩, hn⟩
    · rw [if_pos hk, ih]
theorem indexPatterns_true (a0 : Ix) (hu : ∀ r ∈ a0, U r.1) : windroselaw14_IndexPatterns_m a0 = true := by
  unfold windroselaw14_IndexPatterns_m
  rw [w14_true, Bool.not_true, if_neg Bool.false_ne_true]
  simp only [LR.seq_go]
  have hu' := own14_U hu
  have hlen := (own_len a0 _ rfl).1
  generalize windroselaw14_own_m a0 = x at *
  by_cases h : index_Check_m x = 0
  · rw [if_neg (fun q => q h), ip_l1 ((check_iff x).1.1 h) hu' (by omega) x (fun r hr => hr), LR.on_go]
  · rw [if_pos h]
end Go.SX

set_option linter.unusedVariables false
set_option linter.unusedSimpArgs false
namespace Go.SX
open Go Go.ChangeShapes Go.WideShapes Go.ChangeAt Go.RowKit

/-- All that stands in a world's memory can be read. -/
def heapOf (W : World) : Heap := fun b => W.heap[b]?
theorem sat_heapOf (W : World) : Sat (heapOf W) [] W := ⟨fun _ _ h => h, fun p h => (by cases h), List.nodup_nil, fun p h => (by cases h)⟩

/-- A contract of a function that hands back v, at a world. -/
theorem calls_of_Fv {P : Program} {f : FuncId} {fn : Func} {c : Code} {vs : List Value} {v : Value} {W : World} (hf : P.funcs[f]? = some fn) (hb : fn.body = some c) (hname : (fn.name == "runtime.NumGoroutine") = false)
    (h : Fv P (fnv f) vs (heapOf W) v) : Calls P f vs.toArray W fun e W' => e = .returned v ∧ Below W.heap.size W W' := by
  obtain ⟨nx, w1, h1, h2⟩ := h W (sat_heapOf W)
  have he := Go.Proofs.enters_of (P := P) hf hname hb vs.toArray W
  have hrun : Sem.run P (do let d ← Deferred.ofValue (fnv f) vs.toArray; invoke d.target d.args) W = .ok (.enter f vs.toArray) W := by
    simp [Deferred.ofValue, invoke, he]
  rw [hrun] at h1
  injection h1 with h1 h3
  subst h1; subst h3
  refine callsIn_wide.1 (CallsIn.mono h2 ?_)
  rintro e w' ⟨u, H', L', rfl, hst, rfl, rfl⟩
  exact ⟨rfl, hst.chg.os, hst.chg.tape, hst.chg.output, hst.chg.size, fun b hb => hst.chg.same b hb (by simp [keys])⟩

section
variable {H : Type} {enc : TypeId × Value → H} {P : Program}

theorem trodAll_below (hl : laidOutB P = true) {W W' : World} (hb : Below W.heap.size W W') {sp : Nat → Bool} : ∀ {ts : List TypeId} {vs : List Value} {ds : List (DataW H)} {p : List MemPlace},
    (∀ t ∈ ts, P.readableRec t = true ∧ t < P.types.size) → DataW.TrodAll enc P W 0 (fun _ => true) true ts vs ds p → (∀ q ∈ p, q.block < W.heap.size ∧ sp q.block = true) → DataW.TrodAll enc P W' 0 sp true ts vs ds p
  | [], _, _, _, _, h, _ => by
    obtain ⟨rfl, rfl, rfl⟩ := trodAll_nil h
    exact trodAll_mk0
  | t :: ts, _, _, _, ht, h, hp => by
    obtain ⟨v, vs, d, ds, a, b, rfl, rfl, rfl, h1, h2⟩ := trodAll_cons h
    have h3 := WideElems.Trod_stays (sp' := sp) hl (ht t (List.mem_cons_self ..)).1 (ht t (List.mem_cons_self ..)).2 h1 (fun x hx => hb.same (hp x (List.mem_append_left _ hx)).1) (fun x hx => (hp x (List.mem_append_left _ hx)).2)
    exact ⟨a, b, h3, trodAll_below hl hb (fun t' h' => ht t' (List.mem_cons_of_mem _ h')) h2 (fun x hx => hp x (List.mem_append_right _ hx)), rfl⟩

/-- What is asked behind a call that turned nothing of what there was, and says true. -/
theorem post_true {f : Func} {s : ChangeSpec} {fresh handsOn again : Bool} {W W' : World} {args : Array Value} {ds gs : List (DataW H)} {before : List MemPlace} {tb : TypeId} (hl : laidOutB P = true)
    (hW : DataW.Whole enc P f.params.toList s.vars false W args.toList ds gs before) (hvars : s.vars = []) (hpar : ∀ t ∈ f.params.toList, P.readableRec t = true ∧ t < P.types.size)
    (hs : s.fn H (ds ++ gs) = { results := [.lit (.bool true)], args := ds }) (hrt : f.resultTypes = #[tb]) (htb : P.underlying tb = some .bool) (hb : Below W.heap.size W W') :
    s.post enc P f false fresh handsOn again W args (.bool true) W' := by
  have hlt := hW.lt
  have hW0 := hW
  obtain ⟨p, q, hA, hV, rfl, hfz, hnd⟩ := hW
  rw [hvars] at hV
  obtain ⟨rfl, rfl⟩ := trodVars_none hV
  rw [List.append_nil] at hfz hlt
  have hres : ∀ (b : Nat) (sp : Nat → Bool) (hd : Bool), DataW.TrodAll enc P W' b sp hd f.resultTypes.toList ((Value.bool true).resultList f.resultTypes.size) [.lit (.bool true)] [] := by
    intro b sp hd
    rw [hrt]
    exact trodAll_mk1 (shut_bool htb true)
  have hargs : ∀ sp : Nat → Bool, (∀ x ∈ p, sp x.block = true) → DataW.TrodAll enc P W' 0 sp true f.params.toList args.toList ds p := fun sp hsp =>
    trodAll_below hl hb hpar hA (fun x hx => ⟨hlt x hx, hsp x hx⟩)
  have hvr : ∀ sp : Nat → Bool, DataW.TrodVars enc P W' sp s.vars ([] : List (DataW H)) [] := fun sp => by rw [hvars]; rfl
  refine ⟨ds, [], p ++ [], [], p, [], hW0, ?_, ?_, ?_, World.keptBut_mono (fun x hx => ⟨hx, ?_⟩) (hb.frame (· ∈ p ++ [])), fun _ => ?_⟩
  · rw [hs]; exact hres _ _ _
  · rw [hs]; exact hargs _ (fun x hx => by simpa using hlt x hx)
  · rw [hs]; exact hvr _
  · exact Or.inr (by simpa using hx)
  · refine ⟨ok_one hrt rfl (okWide_bool_mk htb true), _, _, ([] ++ p) ++ [], ⟨[] ++ p, [], trodAll_append (hargs _ (fun _ _ => rfl)) (hres _ _ _), hvr _, rfl, ?_, fun h => by cases h⟩, ?_⟩
    · intro b off hp
      have hp' : MemPlace.cell b off ∈ p := by simpa using hp
      have := hb.frozen (p := ⟨b, off, none⟩) (hlt _ hp')
      rw [this]
      exact hfz b off hp'
    · intro x hx _
      simpa using hx

theorem cellAt_heapOf {W : World} {b o : Nat} {v : Value} (h : W.cell? ⟨b, o, none⟩ = some v) : cellAt (heapOf W) b o = some v := by
  unfold World.cell? at h
  unfold cellAt heapOf
  simp only at h
  revert h
  cases hb : W.heap[b]? with
  | none => intro h; simp at h
  | some ob => cases ob <;> intro h <;> simp_all

end
theorem u_of_wf {x : Int} (h : (Lit.int .u64 x).wf = true) : 0 ≤ x ∧ x < 18446744073709551616 := by
  simp [Lit.wf, IntKind.min, IntKind.max, IntKind.signed, IntKind.bits] at h; omega
end Go.SX

set_option linter.unusedVariables false
set_option linter.unusedSimpArgs false
namespace Go.SX
open Go Go.ChangeShapes Go.WideShapes Go.ChangeAt Go.RowKit Go.Deep
/-- What can be read at the type stands as E says. -/
def Opn (P : Program) (t : TypeId) {α : Type} (E : ER α) (Q : α → Prop) : Prop :=
  ∀ (H : Type) (enc : TypeId × Value → H) (W : World) (sp : Nat → Bool) (hd : Bool) (n : Nat) (cs : List Value) (x : DataW H × List MemPlace), DataW.trod enc P W 0 sp hd n t cs = some x → ∃ a, E.R (heapOf W) cs a ∧ Q a
theorem Opn.int {P : Program} {t : TypeId} {k : IntKind} (ht : P.underlying t = some (.int k)) : Opn P t (intE k) (fun x => (Lit.int k x).wf = true) := fun H enc W sp hd n cs x h => by
  obtain ⟨n, rfl, _, hw⟩ := DataW.trod_int ht h
  exact ⟨n, rfl, hw⟩
theorem Opn.bool {P : Program} {t : TypeId} (ht : P.underlying t = some .bool) : Opn P t boolE (fun _ => True) := fun H enc W sp hd n cs x h => by
  obtain ⟨b, rfl, _⟩ := DataW.trod_bool ht h
  exact ⟨b, rfl, trivial⟩
theorem Opn.weak {P : Program} {t : TypeId} {α : Type} {E : ER α} {Q Q' : α → Prop} (h : Opn P t E Q) (hq : ∀ a, Q a → Q' a) : Opn P t E Q' := fun H enc W sp hd n cs x hx => by
  obtain ⟨a, h1, h2⟩ := h H enc W sp hd n cs x hx
  exact ⟨a, h1, hq a h2⟩
/-- A struct of two ints. -/
theorem Opn.pair {P : Program} {t i : TypeId} {f0 f1 : Field} (ht : P.underlying t = some (.struct #[f0, f1])) (ct : P.cellsOf t = 2) (o0 : f0.offset = 0) (o1 : f1.offset = 1) (t0 : f0.type = i) (t1 : f1.type = i)
    (hi : P.underlying i = some (.int .i64)) (ci : P.cellsOf i = 1) : Opn P t pairE (fun _ => True) := fun H enc W sp hd n cs x h => by
  obtain ⟨xs, m, _, _, hl, hxl, hf⟩ := DataW.trod_struct ht h
  rw [ct] at hl
  match cs, hl, xs, hxl with
  | [v0, v1], _, [y0, y1], _ =>
    have g0 := hf 0 f0 rfl
    have g1 := hf 1 f1 rfl
    rw [o0, t0, ci] at g0
    rw [o1, t1, ci] at g1
    simp at g0 g1
    obtain ⟨a, ha, _⟩ := DataW.trod_int hi g0
    obtain ⟨b, hb, _⟩ := DataW.trod_int hi g1
    simp at ha hb
    subst ha; subst hb
    exact ⟨(a, b), rfl, trivial⟩
/-- An array of two ints. -/
theorem Opn.two {P : Program} {t i : TypeId} (ht : P.underlying t = some (.array 2 i)) (ct : P.cellsOf t = 2) (hi : P.underlying i = some (.int .i64)) (ci : P.cellsOf i = 1) : Opn P t pairE (fun _ => True) := fun H enc W sp hd n cs x h => by
  obtain ⟨xs, m, _, _, hl, hxl, hf⟩ := DataW.trod_array ht h
  rw [ct] at hl
  match cs, hl, xs, hxl with
  | [v0, v1], _, [y0, y1], _ =>
    have g0 := hf 0 (by omega)
    have g1 := hf 1 (by omega)
    rw [ci] at g0 g1
    simp at g0 g1
    obtain ⟨a, ha, _⟩ := DataW.trod_int hi g0
    obtain ⟨b, hb, _⟩ := DataW.trod_int hi g1
    simp at ha hb
    subst ha; subst hb
    exact ⟨(a, b), rfl, trivial⟩
/-- A slice. -/
theorem Opn.slice {P : Program} {t e : TypeId} {α : Type} {E : ER α} {Q : α → Prop} (ht : P.underlying t = some (.slice e)) (hc : P.cellsOf e = E.size) (he : Opn P e E Q) (hs : 0 < E.size) : Opn P t (slE E) (fun xs => ∀ x ∈ xs, Q x) := fun H enc W sp hd n cs x h => by
  rcases open_slice ht h with ⟨rfl, _⟩ | ⟨a, len, cap, m, n', D, Pl, rfl, _, hl, hm, hmm, _, hx⟩
  · exact ⟨[], ⟨_, rfl, RdS.nil⟩, fun x hx => by simp at hx⟩
  · have key : ∀ i, i < len → ∃ x, (∃ b o, a = ⟨b, o, none⟩ ∧ ElemAt E (heapOf W) b (o + i * E.size) x) ∧ Q x := fun i hi => by
      obtain ⟨cs', h1, h2⟩ := hx i (by rw [hmm]; split <;> omega)
      obtain ⟨x, h3, h4⟩ := he H enc W sp hd n' cs' _ h2
      refine ⟨x, ?_, h4⟩
      rw [hc] at h1
      obtain ⟨_, hlen, hcell⟩ := World.cells?_some h1
      obtain ⟨ab, ao, asp⟩ := a
      cases asp with
      | none =>
        refine ⟨ab, ao, rfl, cs', h3, fun j u hj => ?_⟩
        have hjl : j < E.size := by rw [← hlen]; exact (List.getElem?_eq_some_iff.1 hj).1
        have h5 := hcell j hjl
        rw [hj, add_add, Addr.add_lit] at h5
        have := cellAt_heapOf h5
        rw [show ao + i * E.size + j = ao + (i * E.size + j) by omega]
        exact this
      | some s =>
        exfalso
        obtain ⟨cs0, k1, _⟩ := hx 0 (by rw [hmm]; split <;> omega)
        rw [hc, Nat.zero_mul, Addr.add_zero'] at k1
        obtain ⟨_, klen, kcell⟩ := World.cells?_some k1
        have h5 := kcell 0 hs
        rw [Addr.add_zero'] at h5
        obtain ⟨u, hu⟩ : ∃ u, cs0[0]? = some u := ⟨cs0[0], List.getElem?_eq_getElem (by omega)⟩
        rw [hu] at h5
        unfold World.cell? at h5
        revert h5
        cases hb : W.heap[ab]? with
        | none => intro h; simp [hb] at h
        | some ob => cases ob <;> intro h <;> simp [hb] at h
    obtain ⟨f, hf⟩ : ∃ f : Nat → Option α, ∀ i, i < len → ∃ x, f i = some x ∧ (∃ b o, a = ⟨b, o, none⟩ ∧ ElemAt E (heapOf W) b (o + i * E.size) x) ∧ Q x := by
      classical
      refine ⟨fun i => if hi : i < len then some (Classical.choose (key i hi)) else none, fun i hi => ?_⟩
      exact ⟨_, dif_pos hi, Classical.choose_spec (key i hi)⟩
    have hxs : ∀ n, n ≤ len → ∃ xs : List α, xs.length = n ∧ ∀ i, i < n → xs[i]? = f i := fun n => by
      induction n with
      | zero => exact fun _ => ⟨[], rfl, fun i hi => absurd hi (Nat.not_lt_zero _)⟩
      | succ n ih =>
        intro hn
        obtain ⟨xs, h1, h2⟩ := ih (by omega)
        obtain ⟨x, h3, _⟩ := hf n (by omega)
        refine ⟨xs ++ [x], by simp [h1], fun i hi => ?_⟩
        by_cases h : i < n
        · rw [List.getElem?_append_left (by omega)]; exact h2 i h
        · obtain rfl : i = n := by omega
          rw [List.getElem?_append_right (by omega), h1, Nat.sub_self, h3]; rfl
    obtain ⟨xs, h1, h2⟩ := hxs len (Nat.le_refl _)
    subst h1
    refine ⟨xs, ⟨_, rfl, some a, cap, rfl, hl, hm, fun i x hx => ?_⟩, fun x hx => ?_⟩
    · have hi : i < xs.length := (List.getElem?_eq_some_iff.1 hx).1
      obtain ⟨y, h3, ⟨b, o, h4, h5⟩, _⟩ := hf i hi
      rw [h2 i hi, h3] at hx
      injection hx with hx
      subst hx
      exact ⟨b, o, by rw [h4], h5⟩
    · obtain ⟨i, hi, rfl⟩ := List.mem_iff_getElem.1 hx
      obtain ⟨y, h3, _, h4⟩ := hf i hi
      have := h2 i hi
      rw [h3, List.getElem?_eq_getElem hi] at this
      injection this with this
      rw [this]; exact h4
section
variable {P : Program} {H : Type} {enc : TypeId × Value → H} {W : World} {r : Reach} {b0 : Nat} {t : TypeId} {v : Value} {d : DataW H} {p : List MemPlace} {α : Type} {E : ER α} {Q : α → Prop}
/-- A struct, or an array, that is handed in. -/
theorem open_agg (hu : (∃ fs, P.underlying t = some (.struct fs)) ∨ ∃ n e, P.underlying t = some (.array n e)) (ho : Opn P t E Q) (hval : Value.okWide P W r b0 t v) (h : DataW.Trod enc P W 0 (fun _ => true) true t v d p) :
    ∃ cs a, v = .agg cs ∧ E.R (heapOf W) cs.toList a ∧ Q a := by
  have hv : ∃ cs, v = .agg cs := by
    unfold Value.okWide at hval
    rcases hu with ⟨fs, hu⟩ | ⟨n, e, hu⟩
    · rw [hu] at hval; obtain ⟨cs, h1, _⟩ := hval; exact ⟨cs, h1⟩
    · rw [hu] at hval; obtain ⟨cs, h1, _⟩ := hval; exact ⟨cs, h1⟩
  obtain ⟨cs, rfl⟩ := hv
  obtain ⟨n, hn⟩ := h
  obtain ⟨a, h1, h2⟩ := ho H enc W _ _ n _ _ hn
  exact ⟨cs, a, rfl, h1, h2⟩
end
end Go.SX

set_option linter.unusedVariables false
set_option linter.unusedSimpArgs false
namespace Go.SX
open Go Go.ChangeShapes Go.WideShapes Go.ChangeAt Go.RowKit Go.Deep
/-- A struct of one thing stands as that does. -/
theorem Opn.st1 {P : Program} {t i : TypeId} {f0 : Field} {α : Type} {E : ER α} {Q : α → Prop} (ht : P.underlying t = some (.struct #[f0])) (ct : P.cellsOf t = E.size) (o0 : f0.offset = 0) (t0 : f0.type = i)
    (hi : Opn P i E Q) (ci : P.cellsOf i = E.size) : Opn P t E Q := fun H enc W sp hd n cs x h => by
  obtain ⟨xs, m, _, _, hl, hxl, hf⟩ := DataW.trod_struct ht h
  rw [ct] at hl
  have hx1 : xs.length = 1 := hxl
  match xs, hx1 with
  | [y0], _ =>
    have g0 := hf 0 f0 rfl
    rw [o0, t0, ci] at g0
    have e : (cs.drop 0).take E.size = cs := by rw [List.drop_zero, List.take_of_length_le (by omega)]
    simp only [List.drop_zero] at g0
    rw [List.take_of_length_le (by omega)] at g0
    exact hi H enc W _ _ _ _ _ g0
/-- A struct of two things that are one cell each. -/
theorem Opn.st2 {P : Program} {t i j : TypeId} {f0 f1 : Field} {α β : Type} {E0 : ER α} {E1 : ER β} {Q0 : α → Prop} {Q1 : β → Prop} (E : ER (α × β)) (ht : P.underlying t = some (.struct #[f0, f1])) (ct : P.cellsOf t = 2) (o0 : f0.offset = 0) (o1 : f1.offset = 1) (t0 : f0.type = i) (t1 : f1.type = j)
    (hi : Opn P i E0 Q0) (ci : P.cellsOf i = 1) (hj : Opn P j E1 Q1) (cj : P.cellsOf j = 1) (hE : ∀ H v0 v1 a b, E0.R H [v0] a → E1.R H [v1] b → E.R H [v0, v1] (a, b)) : Opn P t E (fun x => Q0 x.1 ∧ Q1 x.2) := fun H enc W sp hd n cs x h => by
  obtain ⟨xs, m, _, _, hl, hxl, hf⟩ := DataW.trod_struct ht h
  rw [ct] at hl
  match cs, hl, xs, hxl with
  | [v0, v1], _, [y0, y1], _ =>
    have g0 := hf 0 f0 rfl
    have g1 := hf 1 f1 rfl
    rw [o0, t0, ci] at g0
    rw [o1, t1, cj] at g1
    simp at g0 g1
    obtain ⟨a, ha, qa⟩ := hi H enc W _ _ _ _ _ g0
    obtain ⟨b, hb, qb⟩ := hj H enc W _ _ _ _ _ g1
    exact ⟨(a, b), hE _ _ _ _ _ ha hb, qa, qb⟩
theorem agg_one {α : Type} {E : ER α} {cs : Array Value} {xs : List α} {H : Heap} (h : (slE E).R H cs.toList xs) : ∃ v, cs = #[v] ∧ RdS E H v xs := by
  obtain ⟨v, h1, h2⟩ := h
  exact ⟨v, Array.toList_inj.1 h1, h2⟩
end Go.SX

set_option linter.unusedVariables false
namespace Go.Proofs.Ytmigaagkfglabaa
open Go.ChangeShapes Go.WideShapes Go.ChangeAt Go.RowKit Go.SX

theorem indexPatterns_own : ownKnob Try.prog.godebug = none := by kernel_rfl
theorem indexPatterns_laid : laidOutB Try.prog = true := by kernel_rfl

set_option maxRecDepth 100000 in
theorem indexPatterns_lifted (os : Os) (started : os.Started) (H : Type) (enc : TypeId × Value → H) :
    ReturnsInHanded {} Try.checked os 5 .any (Rows.indexPatternsSpec.pre6 enc Try.prog Try.f5 Rows.indexPatternsRow.domain false) (Rows.indexPatternsSpec.post enc Try.prog Try.f5 false true false false) := by
  refine returnsInHanded_of_change (C := Try.checked) indexPatterns_own started (by kernel_rfl) Try.func5
    (ChangeSpec.witness6 (enc := enc) (C := Try.checked) false ⟨#[], #[.agg #[.slice none 0 0]], []⟩ 8 (by kernel_rfl) (by kernel_rfl) (by kernel_rfl) (by kernel_rfl)) ?_
  intro W base args ds gs before hval0 hW hcnd _
  have hval : ∀ (j : Nat) t v, Try.f5.params[j]? = some t → args[j]? = some v → Value.okWide Try.prog W .any base t v := hval0
  have hW' := hW
  obtain ⟨p, q, hA0, hV, rfl, hfz, hnd⟩ := hW
  have hA : DataW.TrodAll enc Try.prog W 0 (fun _ => true) true Try.f5.params.toList args.toList ds p := hA0
  rw [Try.params5] at hA hval
  clear hA0 hval0
  obtain ⟨v0, vs0, d0, ds0, p0, q0, e0, rfl, rfl, h0, r0⟩ := trodAll_cons hA
  obtain ⟨e1, rfl, rfl⟩ := trodAll_nil r0
  subst e1
  obtain rfl : args = #[v0] := by cases args; simp_all
  obtain ⟨rfl, rfl⟩ := trodVars_none hV
  obtain ⟨cs0, xs0, rfl, hx0, hw0⟩ := open_agg (.inl ⟨_, Try.underlying46⟩) (Opn.st1 Try.underlying46 (by kernel_rfl) rfl rfl (Opn.slice Try.underlying44 (by kernel_rfl) (Opn.st2 listedE Try.underlying55 (by kernel_rfl) rfl rfl rfl rfl (Opn.int Try.underlying26) (by kernel_rfl) (Opn.slice Try.underlying37 (by kernel_rfl) (Opn.int Try.underlying3) (by decide)) (by kernel_rfl) (fun H v0 v1 a b h0 h1 => by cases (show [v0] = [.int .u64 a] from h0); obtain ⟨w1, hw1, hr1⟩ := h1; cases hw1; exact ⟨_, rfl, hr1⟩)) (by decide)) (by kernel_rfl)) (hval 0 46 v0 rfl rfl) h0
  obtain ⟨u0, rfl, hr0⟩ := agg_one hx0
  have hpar : ∀ t ∈ Try.f5.params.toList, Try.prog.readableRec t = true ∧ t < Try.prog.types.size := by
    intro t ht
    rw [Try.params5] at ht
    simp only [List.mem_cons, List.not_mem_nil, or_false] at ht
    subst ht
    · exact ⟨by kernel_rfl, of_decide_eq_true (by kernel_rfl)⟩
  refine (calls_of_Fv Try.func5 rfl (by kernel_rfl) (Fv.to (windroselaw14_IndexPatterns_c _ xs0 _ hr0) (congrArg Value.bool (indexPatterns_true xs0 (fun r hr => u_of_wf (hw0 r hr).1))))).mono fun e W' ⟨he, hb⟩ => ?_
  subst he
  exact ⟨_, rfl, post_true indexPatterns_laid hW' rfl hpar rfl rfl Try.underlying4 hb⟩

theorem indexPatterns_holds : Rows.IndexPatternsSaid :=
  OpenClaim.holds_of_wide 5 Try.f5 rfl rfl rfl rfl rfl rfl rfl ⟨rfl, rfl, rfl, rfl, rfl⟩ rfl rfl rfl rfl rfl (by kernel_rfl) Try.func5 (by kernel_rfl)
    (of_decide_eq_true (by kernel_rfl)) (by unfold Func.isWrapper; first | (rw [if_pos (by decide +kernel)]; kernel_rfl) | (rw [if_neg (by decide +kernel)]; exact ⟨rfl, rfl⟩))
    (fun os started H enc _ => indexPatterns_lifted os started H enc)
end Go.Proofs.Ytmigaagkfglabaa
