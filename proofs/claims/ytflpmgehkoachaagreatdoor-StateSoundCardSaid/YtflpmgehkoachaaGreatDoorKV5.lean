/- Lemmas. -/
import Derived.Test.YtflpmgehkoachaaGreatDoorKV4
set_option maxHeartbeats 3200000
set_option linter.unusedVariables false
set_option linter.unusedSimpArgs false
namespace Go.SX
open Go Go.Proofs Go.Proofs.Tryz
theorem Tryz_ty36 : TyE Tryz.prog 36 41 heldE 16 := TyE.mk' (z := .agg #[.int .i64 0, .int .u64 0]) underlying36 (by kernel_rfl) rfl (by decide)
def k_79 (a0 : ZS) (a1 : Int) : (ZR) × Bool :=
  LR.seq (k_1b a0 a1) (fun r11 => LR.seq (if (!r11.2) = true then true else ((decide (((k_15 a0) : Int) ≠ 0))) : Bool) (fun sc1 => if sc1 = true then ((((0, [], []) : ZR), false)) else (((a0.2.2.2.getD r11.1.toNat (((0, [], []) : ZR) : ZR)), true))))
theorem state_At_c (H : Heap) {tG0 : TypeId} (hG0 : gF H 0 tG0) {tG1 : TypeId} (hG1 : gA H 1 tG1) (a0 : ZS) (d5 : Value) (b9 : RdS slotE H d5 a0.2.1.2.1) (d6 : Value) (c0 : RdS (intE .i64) H d6 a0.2.1.2.2) (d7 : Value) (c1 : RdS relationE H d7 a0.2.2.1) (d8 : Value) (a8 : RdS rowE H d8 a0.2.2.2) (a1 : Int) (hS : StS a0) : Fc Tryz.prog (fnv 14) [.agg (c24 a0.1 [.int .i64 a0.2.1.1, d5, d6, d7, d8]).toArray, .int .i64 a1] H [] (fun v' H' L' => ∃ e0 e1 e2 e3, v' = .tuple #[.agg #[.int .i64 (k_79 a0 a1).1.1, e0, e1], .bool (k_79 a0 a1).2] ∧ L' = [e2, e3] ∧ OwnS (intE .u64) 39 H' e0 (k_79 a0 a1).1.2.1 e2 ∧ OwnS (slE (intE .u64)) 64 H' e1 (k_79 a0 a1).1.2.2 e3) := by
 refine Fc.of_body (N := 28) func14 rfl kA rfl rfl ?_
 intro w0
 obtain ⟨a9, b0, rfl, f2, f3, b9⟩ := b9.shape
 obtain ⟨b1, b3, rfl, f4, f5, c0⟩ := c0.shape
 obtain ⟨b5, b6, rfl, f6, f7, c1⟩ := c1.shape
 obtain ⟨b7, b8, rfl, f8, f9, a8⟩ := a8.shape
 have hs5 := hS.ids
 have hs1 := hS.slots
 have hs2 := hS.free
 have hs3 := hS.rels
 have hs4 := hS.rows
 refine sR (R.box rfl cA ?_)
 intro b2
 refine R.alloc zeroValue47 rfl ?_
 intro b4
 refine aA ?_
 refine TL.shut (.tl .hd) ?_
 intro e5 a3 e6
 have c9 : e5 b2 = some (.cells (c24 a0.1 [.int .i64 (a0.2.1.1), .slice a9 a0.2.1.2.1.length b0, .slice b1 a0.2.1.2.2.length b3, .slice b5 a0.2.2.1.length b6, .slice b7 a0.2.2.2.length b8]).toArray 31) := shut1 e6
 refine nN (sR (R.ldXH (cs := (c24 a0.1 [.int .i64 (a0.2.1.1), .slice a9 a0.2.1.2.1.length b0, .slice b1 a0.2.1.2.2.length b3, .slice b5 a0.2.2.1.length b6, .slice b7 a0.2.2.2.length b8])) (l := (c24 a0.1 [.int .i64 (a0.2.1.1), .slice a9 a0.2.1.2.1.length b0, .slice b1 a0.2.1.2.2.length b3, .slice b5 a0.2.2.1.length b6, .slice b7 a0.2.2.2.length b8])) isAgg31 sizeOf31 rfl rfl c9 rfl rfl ?_))
 refine mA ?_
 obtain ⟨c5, d0⟩ : ∃ r, r = (k_1b a0 a1) := ⟨_, rfl⟩
 refine R.callv (v := .tuple #[.int .i64 c5.1, .bool c5.2]) rfl rfl rfl (by rw [d0]; exact state_find_c _ a0 _ (b9.mono a3) _ (c0.mono a3) _ (c1.mono a3) _ (a8.mono a3) (a1) bA) ?_
 have tf11 := sfind_rng _ _ _ d0 bA
 refine mA ?_
 refine R.ext rfl rfl rfl ?_
 refine R.ext rfl rfl rfl ?_
 refine aA ?_
 refine aA ?_
 refine nN (T.seq (T.seq (T.cutK (ι := Bool) (fun c4 H' L' ds' => Has L' [[(b4, .cells #[.int .i64 0, .slice none 0 0, .slice none 0 0] 47)]] ∧ (if (!c5.2) = true then true else ((decide (((k_15 a0) : Int) ≠ 0))) : Bool) = c4) (fun c4 => [(2, .pointer (some ⟨b2, 0, none⟩)), (4, .pointer (some ⟨b4, 0, none⟩)), (6, .int .i64 (c5.1)), (20, .bool (c4))]) ?_ ?_)))
 refine T.region (mA ?_)
 refine R.not rfl rfl ?_
 refine mA ?_
 refine TL.gsplit 16 rfl (fun g16 => ?_) (fun g16 => ?_)
 refine oF ?_
 refine oF ?_
 refine oF ?_
 refine R.pkTE rfl rfl cA ?_
 refine nN ?_
 exact ⟨true, HLe.refl _, ⟨(Has.cons .hd Has.nil), (by rw [if_t g16])⟩, rfl, rfl, rfl, rfl, trivial⟩
 refine R.ldXH (cs := (c24 a0.1 [.int .i64 (a0.2.1.1), sl a9 a0.2.1.2.1 b0, sl b1 a0.2.1.2.2 b3, sl b5 a0.2.2.1 b6, sl b7 a0.2.2.2 b8])) (l := (c24 a0.1 [.int .i64 (a0.2.1.1), sl a9 a0.2.1.2.1 b0, sl b1 a0.2.1.2.2 b3, sl b5 a0.2.2.1 b6, sl b7 a0.2.2.2 b8])) isAgg31 sizeOf31 rfl rfl c9 rfl rfl ?_
 refine R.callv rfl rfl rfl (k_9d _ (a3 _ _ hG0) (a3 _ _ hG1) a0 _ (b9.mono a3) _ (c0.mono a3) _ (c1.mono a3) _ (a8.mono a3) (by assumption)) ?_
 refine R.neq rfl rfl rfl ?_
 refine R.pkFE rfl rfl cA ?_
 refine nN ?_
 exact ⟨(decide (((k_15 a0) : Int) ≠ 0)), HLe.refl _, ⟨(Has.cons .hd Has.nil), (by rw [if_f g16])⟩, rfl, rfl, rfl, rfl, trivial⟩
 intro c4 σ_c1 H_c1 L_c1 ds_c1 e4 e7
 obtain ⟨hLc1, d1⟩ := e7
 refine T.has hLc1 ?_
 refine T.cond rfl (fun c6 => ?_) (fun c6 => ?_)
 refine T.set 20 (.bool true) (congrArg Value.bool c6) ?_
 have d2 := d1.trans c6
 try simp only [or_f, or_t, and_f, and_t, decide_eq_true_eq, decide_eq_false_iff_not, Bool.not_eq_true'] at d2
 refine sR (R.bld (cs := [.int .i64 0, .slice none 0 0, .slice none 0 0]) rfl (fun _ => by kernel_rfl) ?_)
 refine stY (l := [.int .i64 0, .slice none 0 0, .slice none 0 0]) (new := [.int .i64 0, .slice none 0 0, .slice none 0 0]) .hd sizeOf47 rfl rfl ?_
 refine aA ?_
 refine nN (T.has (Has.none (Has.none (Has.cons .hd Has.nil))) ?_)
 refine T.ret (Post.thnR ?_)
 have hM : k_79 a0 a1 = (((0, [], []) : ZR), false) := by subst d0; rw [k_79, LR.seq_go, d1, LR.seq_go, if_t c6]
 exact finR2 (v := .agg #[.int .i64 0, .slice none 0 0, .slice none 0 0]) (v' := .bool false) [[], []] rfl (.cellA (cs := [.int .i64 0, .slice none 0 0, .slice none 0 0]) (l := [.int .i64 0, .slice none 0 0, .slice none 0 0]) isAgg47 sizeOf47 rfl (.tl (.tl .hd)) rfl rfl) (.tmp rfl) (List.sublist_append_left ([[], []] : Own) _) ⟨.slice none 0 0, .slice none 0 0, [], [], by first | rw [hM] | rfl, rfl, by rw [hM]; exact OwnS.nil, by rw [hM]; exact OwnS.nil⟩
 refine T.set 20 (.bool false) (congrArg Value.bool c6) ?_
 have d2 := d1.trans c6
 try simp only [or_f, or_t, and_f, and_t, decide_eq_true_eq, decide_eq_false_iff_not, Bool.not_eq_true'] at d2
 refine T.skip (Post.thnN (T.seq ?_))
 have tz := tf11.2.2 (by simpa using d2.1)
 refine T.region (fA underlying31 rfl sizeOf29 ?_)
 refine R.ldH isAgg29 rfl rfl (e4 _ _ c9) rfl ?_
 refine mA ?_
 have d9 : c5.1.toNat < a0.2.2.2.length := bA
 obtain ⟨a2, e25, h25⟩ : ∃ y, y = (a0.2.2.2.getD c5.1.toNat (((0, [], []) : ZR) : ZR)) ∧ a0.2.2.2[c5.1.toNat]? = some y := ⟨_, rfl, k_46 (by first | exact d9 | simpa using d9 | (simp only [List.length_set]; omega) | omega | (rw [(k_26 _).length_eq]; exact d9))⟩
 obtain ⟨b25, o25, i25, k25⟩ := RdS.elem (a8.mono (a3.trans e4)) h25
 obtain ⟨l25, g25, k25⟩ := k25
 obtain ⟨z25_1, z25_2, rfl, d3, d4⟩ := g25
 obtain ⟨e8, e9, rfl, m25_1, n25_1, d3⟩ := d3.shape
 obtain ⟨f0, f1, rfl, m25_2, n25_2, d4⟩ := d4.shape
 refine R.ixp underlying29 sizeOf47 rfl rfl rfl bA i25 ?_
 refine R.ldK (l := [.int .i64 (a2.1), sl e8 a2.2.1 e9, sl f0 a2.2.2 f1]) isAgg47 sizeOf47 rfl rfl k25 rfl ?_
 refine TL.call [] rfl rfl rfl (state_ownRow_i _ a2 _ d3 _ d4 (hS.row _ (List.mem_of_getElem? h25))) ?_
 intro v27 H27 L27 s27 q27
 obtain ⟨g0, g1, c2, c3, rfl, rfl, c7, c8⟩ := q27
 obtain ⟨a4, a5, rfl, g2, g3⟩ := OwnS.shape c7
 obtain ⟨a6, a7, rfl, g4, g5⟩ := OwnS.shape c8
 refine stY (l := [.int .i64 (a2.1), sl a4 a2.2.1 a5, sl a6 a2.2.2 a7]) (new := [.int .i64 (a2.1), sl a4 a2.2.1 a5, sl a6 a2.2.2 a7]) (.tl (.tl .hd)) sizeOf47 rfl rfl ?_
 refine aA ?_
 refine nN (T.has (Has.cons .hd (Has.cons .hd (Has.cons .hd Has.nil))) ?_)
 refine T.ret ?_
 have hM : k_79 a0 a1 = (a2, true) := by subst e25; subst d0; rw [k_79, LR.seq_go, d1, LR.seq_go, if_f c6]
 exact finR2 (v := .agg #[.int .i64 (a2.1), sl a4 a2.2.1 a5, sl a6 a2.2.2 a7]) (v' := .bool true) [c2, c3] rfl (.cellA (cs := [.int .i64 (a2.1), sl a4 a2.2.1 a5, sl a6 a2.2.2 a7]) (l := [.int .i64 (a2.1), sl a4 a2.2.1 a5, sl a6 a2.2.2 a7]) isAgg47 sizeOf47 rfl (.tl (.tl .hd)) rfl rfl) (.tmp rfl) (List.sublist_append_left ([c2, c3] : Own) _) ⟨sl a4 a2.2.1 a5, sl a6 a2.2.2 a7, c2, c3, by first | rw [hM] | rfl, rfl, by rw [hM]; exact c7, by rw [hM]; exact c8⟩
theorem at_fact (s : Sta) (n : Int) (r : Rw × Bool) (e : r = k_79 s n) (hl : s.2.2.2.length ≤ 2000000) : r.2 = true → StOk s ∧ (k_1b s n).2 = true ∧ s.2.2.2[(k_1b s n).1.toNat]? = some r.1 := by
  subst e
  have hf := sfind_rng s n _ rfl hl
  unfold k_79
  simp only [LR.seq_go]
  generalize k_1b s n = q at *
  intro h
  cases hq : q.2 with
  | false => simp [hq] at h
  | true =>
    by_cases c : k_15 s = 0
    · have hlt := hf.2.2 hq
      refine ⟨(scheck_iff s).1.1 c, rfl, ?_⟩
      simp only [c, ne_eq, not_true_eq_false, decide_false, Bool.not_true, Bool.false_eq_true, if_false]
      rw [List.getD_eq_getElem?_getD, List.getElem?_eq_getElem (by omega)]
      rfl
    · simp [c] at h
def k_9f (a0 : ZS) (a1 : Int) : Int × Bool :=
  LR.seq (if ((k_15 a0) : Int) ≠ 0 then true else ((!(k_9c a0.2.1 a1))) : Bool) (fun sc1 => if sc1 = true then ((0, false)) else (LR.seq (k_1 a1) (fun r20 => (r20.1, true))))
theorem state_Alive_c (H : Heap) {tG0 : TypeId} (hG0 : gF H 0 tG0) {tG1 : TypeId} (hG1 : gA H 1 tG1) (a0 : ZS) (b9 : Value) (a7 : RdS slotE H b9 a0.2.1.2.1) (c0 : Value) (a8 : RdS (intE .i64) H c0 a0.2.1.2.2) (c1 : Value) (b5 : RdS relationE H c1 a0.2.2.1) (c2 : Value) (b6 : RdS rowE H c2 a0.2.2.2) (a1 : Int) (hS : StS a0) : Fv Tryz.prog (fnv 28) [.agg (c24 a0.1 [.int .i64 a0.2.1.1, b9, c0, c1, c2]).toArray, .int .u64 a1] H (.tuple #[.int .i64 (k_9f a0 a1).1, .bool (k_9f a0 a1).2]) := by
 refine Fc.of_body (N := 24) func28 rfl kA rfl rfl ?_
 intro w0
 obtain ⟨a3, a4, rfl, d0, d1, a7⟩ := a7.shape
 obtain ⟨a5, a6, rfl, d2, d3, a8⟩ := a8.shape
 obtain ⟨a9, b0, rfl, d4, d5, b5⟩ := b5.shape
 obtain ⟨b1, b3, rfl, d6, d7, b6⟩ := b6.shape
 have hs5 := hS.ids
 have hs1 := hS.slots
 have hs2 := hS.free
 have hs3 := hS.rels
 have hs4 := hS.rows
 refine sR (R.box rfl cA ?_)
 intro b2
 refine aA ?_
 refine aA ?_
 refine TL.shut .hd ?_
 intro c7 a2 c8
 have c4 : c7 b2 = some (.cells (c24 a0.1 [.int .i64 (a0.2.1.1), .slice a3 a0.2.1.2.1.length a4, .slice a5 a0.2.1.2.2.length a6, .slice a9 a0.2.2.1.length b0, .slice b1 a0.2.2.2.length b3]).toArray 31) := shut1 c8
 refine nN (T.seq (T.seq (T.cutK (ι := Bool) (fun b4 H' L' ds' => Has L' [] ∧ (if ((k_15 a0) : Int) ≠ 0 then true else ((!(k_9c a0.2.1 a1))) : Bool) = b4) (fun b4 => [(1, .int .u64 a1), (17, .bool (b4))]) ?_ ?_)))
 refine T.region (R.ldXH (cs := (c24 a0.1 [.int .i64 (a0.2.1.1), .slice a3 a0.2.1.2.1.length a4, .slice a5 a0.2.1.2.2.length a6, .slice a9 a0.2.2.1.length b0, .slice b1 a0.2.2.2.length b3])) (l := (c24 a0.1 [.int .i64 (a0.2.1.1), .slice a3 a0.2.1.2.1.length a4, .slice a5 a0.2.1.2.2.length a6, .slice a9 a0.2.2.1.length b0, .slice b1 a0.2.2.2.length b3])) isAgg31 sizeOf31 rfl rfl c4 rfl rfl ?_)
 refine R.callv rfl rfl rfl (k_9d _ (a2 _ _ hG0) (a2 _ _ hG1) a0 _ (a7.mono a2) _ (a8.mono a2) _ (b5.mono a2) _ (b6.mono a2) (by assumption)) ?_
 refine R.neq rfl rfl rfl ?_
 refine mA ?_
 refine TL.gsplitD 11 rfl (fun g11 => ?_) (fun g11 => ?_)
 refine oF ?_
 refine oF ?_
 refine oF ?_
 refine oF ?_
 refine oF ?_
 refine R.pkTE rfl rfl cA ?_
 refine nN ?_
 exact ⟨true, HLe.refl _, ⟨Has.nil, (by rw [if_pos g11])⟩, rfl, rfl, trivial⟩
 refine fA underlying31 rfl sizeOf27 ?_
 refine R.ldXH (cs := (c24 a0.1 [.int .i64 (a0.2.1.1), sl a3 a0.2.1.2.1 a4, sl a5 a0.2.1.2.2 a6, sl a9 a0.2.2.1 b0, sl b1 a0.2.2.2 b3])) (l := [.int .i64 (a0.2.1.1), sl a3 a0.2.1.2.1 a4, sl a5 a0.2.1.2.2 a6]) isAgg27 sizeOf27 rfl rfl c4 rfl rfl ?_
 refine mA ?_
 refine R.callv rfl rfl rfl (alloc_Alive_c _ (a2 _ _ hG1) a0.2.1 _ (a7.mono a2) _ (a8.mono a2) (a1) bA bA) ?_
 refine R.not rfl rfl ?_
 refine R.pkFE rfl rfl cA ?_
 refine nN ?_
 exact ⟨(!(k_9c a0.2.1 a1)), HLe.refl _, ⟨Has.nil, (by rw [if_neg g11])⟩, rfl, rfl, trivial⟩
 intro b4 σ_c1 H_c1 L_c1 ds_c1 s_c1 c9
 obtain ⟨hLc1, b8⟩ := c9
 refine T.has hLc1 ?_
 refine T.cond rfl (fun b7 => ?_) (fun b7 => ?_)
 refine T.set 17 (.bool true) (congrArg Value.bool b7) ?_
 have c3 := b8.trans b7
 try simp only [or_f, or_t, and_f, and_t, decide_eq_true_eq, decide_eq_false_iff_not, Bool.not_eq_true'] at c3
 refine sR (aA ?_)
 refine aA ?_
 refine nN (T.has Has.nil ?_)
 refine T.ret (Post.thnR ?_)
 have hM : k_9f a0 a1 = (0, false) := by rw [k_9f, b8, LR.seq_go, if_t b7]
 exact fin2L (v := .int .i64 0) (v' := .bool false) [] rfl rfl rfl (List.Sublist.refl _) ⟨rfl, by first | rw [hM] | rfl⟩
 refine T.set 17 (.bool false) (congrArg Value.bool b7) ?_
 have c3 := b8.trans b7
 try simp only [or_f, or_t, and_f, and_t, decide_eq_true_eq, decide_eq_false_iff_not, Bool.not_eq_true'] at c3
 refine T.skip (Post.thnN (sR ?_))
 refine mA ?_
 obtain ⟨c5, c6⟩ : ∃ r, r = (k_1 a1) := ⟨_, rfl⟩
 refine R.callv (v := .tuple #[.int .i64 c5.1, .int .i64 c5.2]) rfl rfl rfl (by rw [c6]; exact k_57 _ (a1)) ?_
 refine mA ?_
 refine R.ext rfl rfl rfl ?_
 refine R.ext rfl rfl rfl ?_
 refine aA ?_
 refine aA ?_
 refine nN (sR (mA ?_))
 refine aA ?_
 refine aA ?_
 refine nN (T.has Has.nil ?_)
 refine T.ret ?_
 have hM : k_9f a0 a1 = (c5.1, true) := by subst c6; rw [k_9f, b8, LR.seq_go, if_f b7, LR.seq_go]
 exact fin2L (v := .int .i64 (c5.1)) (v' := .bool true) [] rfl rfl rfl (List.Sublist.refl _) ⟨rfl, by first | rw [hM] | rfl⟩
def k_87  : List (Int × Int) → ((List (Int × Int))) → (List (Int × Int))
  | [], sr1 => sr1
  | yr1 :: ysr1, sr1 => k_87 ysr1 ((sr1 ++ [yr1]))
def k_69 (a0 : ZS) : (List (Int × Int)) :=
  if ((k_15 a0) : Int) ≠ 0 then [] else (LR.seq (k_6b a0) (fun r10 => LR.seq (k_87 r10 []) (fun or1 => or1)))
theorem state_Held_c (H : Heap) {tG0 : TypeId} (hG0 : gF H 0 tG0) {tG1 : TypeId} (hG1 : gA H 1 tG1) (a0 : ZS) (c4 : Value) (b7 : RdS slotE H c4 a0.2.1.2.1) (c5 : Value) (b8 : RdS (intE .i64) H c5 a0.2.1.2.2) (c6 : Value) (b9 : RdS relationE H c6 a0.2.2.1) (c7 : Value) (c0 : RdS rowE H c7 a0.2.2.2) (hS : StS a0) : Fc Tryz.prog (fnv 12) [.agg (c24 a0.1 [.int .i64 a0.2.1.1, c4, c5, c6, c7]).toArray] H [] (fun v' H' L' => ∃ d9 e0, v' = d9 ∧ L' = [e0] ∧ OwnS heldE 41 H' d9 (k_69 a0) e0) := by
 refine Fc.of_body (N := 20) func12 rfl kA rfl rfl ?_
 intro w0
 obtain ⟨a7, a8, rfl, e4, e5, b7⟩ := b7.shape
 obtain ⟨a9, b0, rfl, e6, e7, b8⟩ := b8.shape
 obtain ⟨b2, b4, rfl, e8, e9, b9⟩ := b9.shape
 obtain ⟨b5, b6, rfl, f0, f1, c0⟩ := c0.shape
 have hs5 := hS.ids
 have hs1 := hS.slots
 have hs2 := hS.free
 have hs3 := hS.rels
 have hs4 := hS.rows
 refine sR (R.box rfl cA ?_)
 intro b1
 refine aA ?_
 refine TL.shut .hd ?_
 intro e2 a4 e3
 have d5 : e2 b1 = some (.cells (c24 a0.1 [.int .i64 (a0.2.1.1), .slice a7 a0.2.1.2.1.length a8, .slice a9 a0.2.1.2.2.length b0, .slice b2 a0.2.2.1.length b4, .slice b5 a0.2.2.2.length b6]).toArray 31) := shut1 e3
 refine nN (T.seq (sR (R.ldXH (cs := (c24 a0.1 [.int .i64 (a0.2.1.1), .slice a7 a0.2.1.2.1.length a8, .slice a9 a0.2.1.2.2.length b0, .slice b2 a0.2.2.1.length b4, .slice b5 a0.2.2.2.length b6])) (l := (c24 a0.1 [.int .i64 (a0.2.1.1), .slice a7 a0.2.1.2.1.length a8, .slice a9 a0.2.1.2.2.length b0, .slice b2 a0.2.2.1.length b4, .slice b5 a0.2.2.2.length b6])) isAgg31 sizeOf31 rfl rfl d5 rfl rfl ?_)))
 refine R.callv rfl rfl rfl (k_9d _ (a4 _ _ hG0) (a4 _ _ hG1) a0 _ (b7.mono a4) _ (b8.mono a4) _ (b9.mono a4) _ (c0.mono a4) (by assumption)) ?_
 refine R.neq rfl rfl rfl ?_
 refine nN (T.condD rfl (fun c8 => ?_) (fun c8 => ?_))
 refine T.set 8 (.bool true) (congrArg Value.bool (decide_eq_true c8)) ?_
 refine sR (aA ?_)
 refine nN (T.has (Has.none Has.nil) ?_)
 refine T.ret (Post.thnR ?_)
 have hM : k_69 a0 = [] := by rw [k_69, if_pos c8]
 exact fin1L (v := .slice none 0 0) [[]] rfl rfl (List.Sublist.refl _) ⟨.slice none 0 0, [], by first | rw [hM] | rfl, rfl, by rw [hM]; exact OwnS.nil⟩
 refine T.set 8 (.bool false) (congrArg Value.bool (decide_eq_false c8)) ?_
 refine T.skip (Post.thnN (sR ?_))
 refine R.alloc zeroValue36 rfl ?_
 intro b3
 refine nN (T.seq (sR (R.ldXH (cs := (c24 a0.1 [.int .i64 (a0.2.1.1), .slice a7 a0.2.1.2.1.length a8, .slice a9 a0.2.1.2.2.length b0, .slice b2 a0.2.2.1.length b4, .slice b5 a0.2.2.2.length b6])) (l := (c24 a0.1 [.int .i64 (a0.2.1.1), .slice a7 a0.2.1.2.1.length a8, .slice a9 a0.2.1.2.2.length b0, .slice b2 a0.2.2.1.length b4, .slice b5 a0.2.2.2.length b6])) isAgg31 sizeOf31 rfl rfl d5 rfl rfl ?_)))
 obtain ⟨c9, d0⟩ : ∃ r, r = (k_6b a0) := ⟨_, rfl⟩
 refine R.callp rfl rfl rfl (state_pairs_c _ a0 _ (b7.mono a4) _ (b8.mono a4) _ (b9.mono a4) _ (c0.mono a4)) ?_
 intro v10 H10 s10 q10
 rw [← d0] at q10
 obtain ⟨f2, rfl, d7⟩ := q10
 have tp10 := pairs_ids _ _ d0
 refine nN (T.block (T.rangeFunc (xs := c9) rfl rfl (enters_of func130 kA rfl) d7 (fun _ _ _ h => by subst h; rfl) rfl (fun pre H' L' => ∃ (a5 : Value) (a1 : List (Int × Int)) (a2 : Chunk), Has L' [[(b3, .cells #[a5] 36)], a2] ∧ OwnS heldE 41 H' a5 a1 a2 ∧ a1.length ≤ pre.length ∧ k_87 (c9.drop pre.length) a1 = k_87 c9 []) (fun _ _ _ _ => False) (fun pre H H' L hle ⟨a5, a1, a2, hL, a3, hB0, hQ⟩ => ⟨a5, a1, a2, hL, (a3.mono hle), hB0, hQ⟩) (fun _ _ _ _ _ _ h => h) ?_ ?_ ?_ ?_))
 exact ⟨.slice none 0 0, [], [], (Has.cons .hd (Has.none Has.nil)), OwnS.nil, bA, (by rfl)⟩
 intro lr1 rr1 wr1 d6 a6 vsr1 Hr1 Lr1 sr1 d1 c3 hYr1
 obtain ⟨a5, a1, a2, d2, a3, e1, d3⟩ := c3
 obtain ⟨c1, c2, rfl, d8, d4⟩ := OwnS.shape a3
 obtain rfl := hYr1
 refine T.has d2 ?_
 have hlpr1 : d6.length + 1 ≤ c9.length := by have h0 := d1.length_le; simpa using h0
 refine sR (aA ?_)
 refine nN (T.region (aA ?_))
 refine TL.nil (onlyN.mk ?_)
 refine T.block (T.region (R.ld isAgg36 rfl rfl .hd rfl ?_))
 refine mA ?_
 refine mA ?_
 refine R.bld (cs := [.int .i64 (a6.1), .int .u64 (a6.2)]) rfl (fun _ => by kernel_rfl) ?_
 refine R.bs (e := 41) (cs := [.int .i64 (a6.1), .int .u64 (a6.2)]) rfl (fun _ => by kernel_rfl) ?_
 intro b17
 have w17 := lit1 (E := heldE) (e := 41) (H := Hr1) (b := b17) (y := a6) (a := [.int .i64 (a6.1), .int .u64 (a6.2)]) rfl
 obtain ⟨k18, y18, r18⟩ := Src.ownA w17
 refine R.app (E := heldE) (e := 41) (xs := a1) (ys := [a6]) Tryz_ty36 rfl rfl rfl a3 (.tl (.tl .hd)) (r18 _ .hd) y18 lA lA ?_
 intro v18 c18 w18
 obtain ⟨A18, p18, rfl, m18, n18⟩ := OwnS.shape w18
 refine TL.del (.tl .hd) ?_
 refine stY (l := [sl A18 (a1 ++ [a6]) p18]) (new := [sl A18 (a1 ++ [a6]) p18]) (.tl .hd) sizeOf36 rfl (cells1 rfl) ?_
 refine TL.nil (Post.blkN ?_)
 refine id ?_
 exact ⟨sl A18 (a1 ++ [a6]) p18, (a1 ++ [a6]), c18, (Has.cons (.tl .hd) (Has.cons .hd Has.nil)), w18, bA, (by rw [← d3, drop_pre d1, k_87])⟩
 intro Dr1 Hr1 Lr1 sr1 c3
 obtain ⟨a5, a1, a2, d2, a3, e1, d3⟩ := c3
 obtain ⟨c1, c2, rfl, d8, d4⟩ := OwnS.shape a3
 have hEr1 : k_87 c9 [] = a1 := by rw [← d3, List.drop_length, k_87]
 refine id (Post.blkN ?_)
 refine id (Post.thnN (T.has d2 ?_))
 refine sR (R.ld isAgg36 rfl rfl .hd rfl ?_)
 refine aA ?_
 refine nN (T.has (Has.cons (.tl .hd) Has.nil) ?_)
 refine T.ret ?_
 have hM : k_69 a0 = a1 := by subst d0; rw [k_69, if_neg c8, LR.seq_go, hEr1, LR.seq_go]
 exact fin1L (v := sl c1 a1 c2) [a2] rfl rfl (List.Sublist.refl _) ⟨sl c1 a1 c2, a2, by first | rw [hM] | rfl, rfl, by rw [hM]; exact a3⟩
 intro Dr1 cr1 d6 a6 Hr1 Lr1 sr1 d1 c3
 exact c3.elim
def k_7e (a0 : ZS) (a1 : Int) : (List (Int × Int)) :=
  if ((k_15 a0) : Int) ≠ 0 then [] else (LR.seq (k_3c a0 a1) (fun r10 => r10))
theorem state_Links_c (H : Heap) {tG0 : TypeId} (hG0 : gF H 0 tG0) {tG1 : TypeId} (hG1 : gA H 1 tG1) (a0 : ZS) (c0 : Value) (b1 : RdS slotE H c0 a0.2.1.2.1) (c1 : Value) (b3 : RdS (intE .i64) H c1 a0.2.1.2.2) (c2 : Value) (b4 : RdS relationE H c2 a0.2.2.1) (c3 : Value) (b5 : RdS rowE H c3 a0.2.2.2) (a1 : Int) (hS : StS a0) : Fc Tryz.prog (fnv 16) [.agg (c24 a0.1 [.int .i64 a0.2.1.1, c0, c1, c2, c3]).toArray, .int .i64 a1] H [] (fun v' H' L' => ∃ c6 c8, v' = c6 ∧ L' = [c8] ∧ OwnS pairE 71 H' c6 (k_7e a0 a1) c8) := by
 refine Fc.of_body (N := 11) func16 rfl kA rfl rfl ?_
 intro w0
 obtain ⟨a3, a4, rfl, d1, d2, b1⟩ := b1.shape
 obtain ⟨a5, a6, rfl, d3, d4, b3⟩ := b3.shape
 obtain ⟨a7, a8, rfl, d5, d6, b4⟩ := b4.shape
 obtain ⟨a9, b0, rfl, d7, d8, b5⟩ := b5.shape
 have hs5 := hS.ids
 have hs1 := hS.slots
 have hs2 := hS.free
 have hs3 := hS.rels
 have hs4 := hS.rows
 refine sR (R.box rfl cA ?_)
 intro b2
 refine aA ?_
 refine TL.shut .hd ?_
 intro c9 a2 d0
 have c5 : c9 b2 = some (.cells (c24 a0.1 [.int .i64 (a0.2.1.1), .slice a3 a0.2.1.2.1.length a4, .slice a5 a0.2.1.2.2.length a6, .slice a7 a0.2.2.1.length a8, .slice a9 a0.2.2.2.length b0]).toArray 31) := shut1 d0
 refine nN (T.seq (sR (R.ldXH (cs := (c24 a0.1 [.int .i64 (a0.2.1.1), .slice a3 a0.2.1.2.1.length a4, .slice a5 a0.2.1.2.2.length a6, .slice a7 a0.2.2.1.length a8, .slice a9 a0.2.2.2.length b0])) (l := (c24 a0.1 [.int .i64 (a0.2.1.1), .slice a3 a0.2.1.2.1.length a4, .slice a5 a0.2.1.2.2.length a6, .slice a7 a0.2.2.1.length a8, .slice a9 a0.2.2.2.length b0])) isAgg31 sizeOf31 rfl rfl c5 rfl rfl ?_)))
 refine R.callv rfl rfl rfl (k_9d _ (a2 _ _ hG0) (a2 _ _ hG1) a0 _ (b1.mono a2) _ (b3.mono a2) _ (b4.mono a2) _ (b5.mono a2) (by assumption)) ?_
 refine R.neq rfl rfl rfl ?_
 refine nN (T.condD rfl (fun c7 => ?_) (fun c7 => ?_))
 refine T.set 7 (.bool true) (congrArg Value.bool (decide_eq_true c7)) ?_
 refine sR (aA ?_)
 refine nN (T.has (Has.none Has.nil) ?_)
 refine T.ret (Post.thnR ?_)
 have hM : k_7e a0 a1 = [] := by rw [k_7e, if_pos c7]
 exact fin1L (v := .slice none 0 0) [[]] rfl rfl (List.Sublist.refl _) ⟨.slice none 0 0, [], by first | rw [hM] | rfl, rfl, by rw [hM]; exact OwnS.nil⟩
 refine T.set 7 (.bool false) (congrArg Value.bool (decide_eq_false c7)) ?_
 refine T.skip (Post.thnN (sR ?_))
 refine R.ldXH (cs := (c24 a0.1 [.int .i64 (a0.2.1.1), sl a3 a0.2.1.2.1 a4, sl a5 a0.2.1.2.2 a6, sl a7 a0.2.2.1 a8, sl a9 a0.2.2.2 b0])) (l := (c24 a0.1 [.int .i64 (a0.2.1.1), sl a3 a0.2.1.2.1 a4, sl a5 a0.2.1.2.2 a6, sl a7 a0.2.2.1 a8, sl a9 a0.2.2.2 b0])) isAgg31 sizeOf31 rfl rfl c5 rfl rfl ?_
 refine mA ?_
 obtain ⟨r10, c4⟩ : ∃ r, r = (k_3c a0 a1) := ⟨_, rfl⟩
 refine TL.call [] rfl rfl rfl (state_links_c _ a0 _ (b1.mono a2) _ (b3.mono a2) _ (b4.mono a2) _ (b5.mono a2) (a1) bA) ?_
 intro v10 H10 L10 s10 q10
 rw [← c4] at q10
 obtain ⟨d9, b6, rfl, rfl, b7⟩ := q10
 obtain ⟨b8, b9, rfl, e0, e1⟩ := OwnS.shape b7
 have tl10 := links_len _ _ _ c4
 refine aA ?_
 refine nN (T.has (Has.cons .hd Has.nil) ?_)
 refine T.ret ?_
 have hM : k_7e a0 a1 = r10 := by subst c4; rw [k_7e, if_neg c7, LR.seq_go]
 exact fin1L (v := sl b8 r10 b9) [b6] rfl rfl (List.Sublist.refl _) ⟨sl b8 r10 b9, b6, by first | rw [hM] | rfl, rfl, by rw [hM]; exact b7⟩
def k_7f (a0 : ZS) (a1 : Int) : Int × Int :=
  if ((k_15 a0) : Int) ≠ 0 then ((0, (k_15 a0))) else (LR.seq (k_1b a0 a1) (fun r17 => if (!r17.2) = true then ((0, 4)) else (LR.seq (if a1 = 1 then true else ((decide (a1 = 2))) : Bool) (fun sc1 => if sc1 = true then ((0, 291)) else ((r17.1, 0))))))
theorem state_may_c (H : Heap) {tG0 : TypeId} (hG0 : gF H 0 tG0) {tG1 : TypeId} (hG1 : gA H 1 tG1) (a0 : ZS) (c2 : Value) (b1 : RdS slotE H c2 a0.2.1.2.1) (c3 : Value) (b3 : RdS (intE .i64) H c3 a0.2.1.2.2) (c4 : Value) (b4 : RdS relationE H c4 a0.2.2.1) (c5 : Value) (b5 : RdS rowE H c5 a0.2.2.2) (a1 : Int) (hS : StS a0) : Fv Tryz.prog (fnv 118) [.agg (c24 a0.1 [.int .i64 a0.2.1.1, c2, c3, c4, c5]).toArray, .int .i64 a1] H (.tuple #[.int .i64 (k_7f a0 a1).1, .int .i64 (k_7f a0 a1).2]) := by
 refine Fc.of_body (N := 31) func118 rfl kA rfl rfl ?_
 intro w0
 obtain ⟨a3, a4, rfl, d2, d3, b1⟩ := b1.shape
 obtain ⟨a5, a6, rfl, d4, d5, b3⟩ := b3.shape
 obtain ⟨a7, a8, rfl, d6, d7, b4⟩ := b4.shape
 obtain ⟨a9, b0, rfl, d8, d9, b5⟩ := b5.shape
 have hs5 := hS.ids
 have hs1 := hS.slots
 have hs2 := hS.free
 have hs3 := hS.rels
 have hs4 := hS.rows
 refine sR (R.box rfl cA ?_)
 intro b2
 refine aA ?_
 refine aA ?_
 refine TL.shut .hd ?_
 intro c9 a2 d0
 have c8 : c9 b2 = some (.cells (c24 a0.1 [.int .i64 (a0.2.1.1), .slice a3 a0.2.1.2.1.length a4, .slice a5 a0.2.1.2.2.length a6, .slice a7 a0.2.2.1.length a8, .slice a9 a0.2.2.2.length b0]).toArray 31) := shut1 d0
 refine nN (T.seq (sR (R.ldXH (cs := (c24 a0.1 [.int .i64 (a0.2.1.1), .slice a3 a0.2.1.2.1.length a4, .slice a5 a0.2.1.2.2.length a6, .slice a7 a0.2.2.1.length a8, .slice a9 a0.2.2.2.length b0])) (l := (c24 a0.1 [.int .i64 (a0.2.1.1), .slice a3 a0.2.1.2.1.length a4, .slice a5 a0.2.1.2.2.length a6, .slice a7 a0.2.2.1.length a8, .slice a9 a0.2.2.2.length b0])) isAgg31 sizeOf31 rfl rfl c8 rfl rfl ?_)))
 refine R.callv rfl rfl rfl (k_9d _ (a2 _ _ hG0) (a2 _ _ hG1) a0 _ (b1.mono a2) _ (b3.mono a2) _ (b4.mono a2) _ (b5.mono a2) (by assumption)) ?_
 refine aA ?_
 refine nN (sR (mA ?_))
 refine R.neq rfl rfl rfl ?_
 refine nN (T.condD rfl (fun b7 => ?_) (fun b7 => ?_))
 refine T.set 12 (.bool true) (congrArg Value.bool (decide_eq_true b7)) ?_
 refine sR (mA ?_)
 refine aA ?_
 refine aA ?_
 refine nN (T.has Has.nil ?_)
 refine T.ret (Post.thnR ?_)
 have hM : k_7f a0 a1 = (0, (k_15 a0)) := by rw [k_7f, if_pos b7]
 exact fin2L (v := .int .i64 0) (v' := .int .i64 (k_15 a0)) [] rfl rfl rfl (List.Sublist.refl _) ⟨rfl, by first | rw [hM] | rfl⟩
 refine T.set 12 (.bool false) (congrArg Value.bool (decide_eq_false b7)) ?_
 refine T.skip (Post.thnN (sR ?_))
 refine R.ldXH (cs := (c24 a0.1 [.int .i64 (a0.2.1.1), sl a3 a0.2.1.2.1 a4, sl a5 a0.2.1.2.2 a6, sl a7 a0.2.2.1 a8, sl a9 a0.2.2.2 b0])) (l := (c24 a0.1 [.int .i64 (a0.2.1.1), sl a3 a0.2.1.2.1 a4, sl a5 a0.2.1.2.2 a6, sl a7 a0.2.2.1 a8, sl a9 a0.2.2.2 b0])) isAgg31 sizeOf31 rfl rfl c8 rfl rfl ?_
 refine mA ?_
 obtain ⟨c6, b8⟩ : ∃ r, r = (k_1b a0 a1) := ⟨_, rfl⟩
 refine R.callv (v := .tuple #[.int .i64 c6.1, .bool c6.2]) rfl rfl rfl (by rw [b8]; exact state_find_c _ a0 _ (b1.mono a2) _ (b3.mono a2) _ (b4.mono a2) _ (b5.mono a2) (a1) bA) ?_
 have tf17 := sfind_rng _ _ _ b8 bA
 refine mA ?_
 refine R.ext rfl rfl rfl ?_
 refine R.ext rfl rfl rfl ?_
 refine aA ?_
 refine aA ?_
 refine nN (T.seq (T.block (sR (mA ?_))))
 refine R.not rfl rfl ?_
 refine aA ?_
 refine nN (T.cond rfl (fun c0 => ?_) (fun c0 => ?_))
 refine T.set 20 (.bool true) (congrArg Value.bool c0) ?_
 refine sR (aA ?_)
 refine aA ?_
 refine nN (T.has Has.nil ?_)
 refine T.ret (Post.blkR (Post.thnR ?_))
 have hM : k_7f a0 a1 = (0, 4) := by subst b8; rw [k_7f, if_neg b7, LR.seq_go, if_t c0]
 exact fin2L (v := .int .i64 0) (v' := .int .i64 4) [] rfl rfl rfl (List.Sublist.refl _) ⟨rfl, by first | rw [hM] | rfl⟩
 refine T.set 20 (.bool false) (congrArg Value.bool c0) ?_
 refine T.seq (T.cutK (ι := Bool) (fun b6 H' L' ds' => Has L' [] ∧ (if a1 = 1 then true else ((decide (a1 = 2))) : Bool) = b6) (fun b6 => [(7, .int .i64 (c6.1)), (23, .bool (b6))]) ?_ ?_)
 refine T.region (mA ?_)
 refine R.eql rfl rfl rfl ?_
 refine mA ?_
 refine TL.gsplitD 26 rfl (fun g26 => ?_) (fun g26 => ?_)
 refine oF ?_
 refine oF ?_
 refine R.pkTE rfl rfl cA ?_
 refine aA ?_
 refine nN ?_
 exact ⟨true, HLe.refl _, ⟨Has.nil, (by rw [if_pos g26])⟩, rfl, rfl, trivial⟩
 refine mA ?_
 refine R.eql rfl rfl rfl ?_
 refine R.pkFE rfl rfl cA ?_
 refine aA ?_
 refine nN ?_
 exact ⟨(decide (a1 = 2)), HLe.refl _, ⟨Has.nil, (by rw [if_neg g26])⟩, rfl, rfl, trivial⟩
 intro b6 σ_c1 H_c1 L_c1 ds_c1 s_c1 d1
 obtain ⟨hLc1, c1⟩ := d1
 refine T.has hLc1 ?_
 refine T.cond rfl (fun b9 => ?_) (fun b9 => ?_)
 refine T.set 23 (.bool true) (congrArg Value.bool b9) ?_
 have c7 := c1.trans b9
 try simp only [or_f, or_t, and_f, and_t, decide_eq_true_eq, decide_eq_false_iff_not, Bool.not_eq_true'] at c7
 refine sR (aA ?_)
 refine aA ?_
 refine nN (T.has Has.nil ?_)
 refine T.ret (Post.blkR (Post.thnR ?_))
 have hM : k_7f a0 a1 = (0, 291) := by subst b8; rw [k_7f, if_neg b7, LR.seq_go, if_f c0, c1, LR.seq_go, if_t b9]
 exact fin2L (v := .int .i64 0) (v' := .int .i64 291) [] rfl rfl rfl (List.Sublist.refl _) ⟨rfl, by first | rw [hM] | rfl⟩
 refine T.set 23 (.bool false) (congrArg Value.bool b9) ?_
 have c7 := c1.trans b9
 try simp only [or_f, or_t, and_f, and_t, decide_eq_true_eq, decide_eq_false_iff_not, Bool.not_eq_true'] at c7
 refine T.skip (Post.blkN ?_)
 refine id (Post.thnN (sR ?_))
 refine mA ?_
 refine aA ?_
 refine aA ?_
 refine nN (T.has Has.nil ?_)
 refine T.ret ?_
 have hM : k_7f a0 a1 = (c6.1, 0) := by subst b8; rw [k_7f, if_neg b7, LR.seq_go, if_f c0, c1, LR.seq_go, if_f b9]
 exact fin2L (v := .int .i64 (c6.1)) (v' := .int .i64 0) [] rfl rfl rfl (List.Sublist.refl _) ⟨rfl, by first | rw [hM] | rfl⟩
def k_7d (a0 : ZS) (a1 : ZR) (a2 : Int) : Int :=
  LR.seq (k_1 a2) (fun r13 => LR.seq (k_29 a0.2.2.1 r13.1) (fun r20 => LR.seq (k_2e a0.2.2.1 a1.2.1 a2) (fun r29 => if (0 : Int) < (r29.length : Int) then 5 else (LR.seq (if r20.1.1 = true then (if ((kindG a2) : Int) = 3 then (LR.seq (k_3c a0 r13.1) (fun r43 => (decide (a1.1 = r13.2) || leadsR r43 r13.2 a1.1))) else false) else false : Bool) (fun sc1 => if sc1 = true then 270 else 0)))))
theorem state_joins_c (H : Heap) {tG0 : TypeId} (hG0 : gF H 0 tG0) (a0 : ZS) (d7 : Value) (b1 : RdS slotE H d7 a0.2.1.2.1) (d8 : Value) (b2 : RdS (intE .i64) H d8 a0.2.1.2.2) (d9 : Value) (a9 : RdS relationE H d9 a0.2.2.1) (e0 : Value) (b5 : RdS rowE H e0 a0.2.2.2) (a1 : ZR) (e4 : Value) (d1 : RdS (intE .u64) H e4 a1.2.1) (e5 : Value) (e6 : RdS (slE (intE .u64)) H e5 a1.2.2) (a2 : Int) (hS : StS a0) (hR : RowS a1) : Fv Tryz.prog (fnv 121) [.agg (c24 a0.1 [.int .i64 a0.2.1.1, d7, d8, d9, e0]).toArray, .agg #[.int .i64 a1.1, e4, e5], .int .u64 a2] H (.int .i64 (k_7d a0 a1 a2)) := by
 refine Fc.of_body (N := 49) func121 rfl kA rfl rfl ?_
 intro w0
 obtain ⟨b6, b7, rfl, g4, g5, b1⟩ := b1.shape
 obtain ⟨b8, c0, rfl, g6, g7, b2⟩ := b2.shape
 obtain ⟨c1, c2, rfl, g8, g9, a9⟩ := a9.shape
 obtain ⟨c3, c4, rfl, h0, h1, b5⟩ := b5.shape
 obtain ⟨f1, f2, rfl, hca1_1, hda1_1, d1⟩ := d1.shape
 obtain ⟨f3, f4, rfl, hca1_2, hda1_2, e6⟩ := e6.shape
 have hs5 := hS.ids
 have hs1 := hS.slots
 have hs2 := hS.free
 have hs3 := hS.rels
 have hs4 := hS.rows
 have hr1 := hR.t
 have hr2 := hR.v
 refine sR (R.box rfl cA ?_)
 intro b3
 refine R.box rfl cA ?_
 intro b4
 refine aA ?_
 refine TL.shut .hd ?_
 intro f5 a6 f6
 have e7 : f5 b4 = some (.cells #[.int .i64 (a1.1), .slice f1 a1.2.1.length f2, .slice f3 a1.2.2.length f4] 47) := shut1 f6
 refine TL.shut .hd ?_
 intro f7 a4 f8
 have d2 : f7 b3 = some (.cells (c24 a0.1 [.int .i64 (a0.2.1.1), .slice b6 a0.2.1.2.1.length b7, .slice b8 a0.2.1.2.2.length c0, .slice c1 a0.2.2.1.length c2, .slice c3 a0.2.2.2.length c4]).toArray 31) := shut1 f8
 refine nN (sR (mA ?_))
 obtain ⟨a8, d3⟩ : ∃ r, r = (k_1 a2) := ⟨_, rfl⟩
 refine R.callv (v := .tuple #[.int .i64 a8.1, .int .i64 a8.2]) rfl rfl rfl (by rw [d3]; exact k_57 _ (a2)) ?_
 refine mA ?_
 refine R.ext rfl rfl rfl ?_
 refine R.ext rfl rfl rfl ?_
 refine aA ?_
 refine aA ?_
 refine nN (sR (fA underlying31 rfl sizeOf28 ?_))
 refine R.ldH isAgg28 rfl rfl d2 rfl ?_
 refine mA ?_
 obtain ⟨a3, c5⟩ : ∃ r, r = (k_29 a0.2.2.1 a8.1) := ⟨_, rfl⟩
 refine R.callv (v := .tuple #[.agg #[.bool a3.1.1, .bool a3.1.2.1, .int .i64 a3.1.2.2.1, .int .i64 a3.1.2.2.2.1, .int .i64 a3.1.2.2.2.2], .bool a3.2]) rfl rfl rfl (by rw [c5]; exact trait_Find_c _ ((a6.trans a4) _ _ hG0) _ a0.2.2.1 (a9.mono (a6.trans a4)) (a8.1) bA) ?_
 have tp20 := find_pol _ _ _ c5 bA
 refine mA ?_
 refine R.ext rfl rfl rfl ?_
 refine R.ext rfl rfl rfl ?_
 refine R.alloc zeroValue51 rfl ?_
 intro b9
 refine stY (l := [.bool (a3.1.1), .bool (a3.1.2.1), .int .i64 (a3.1.2.2.1), .int .i64 (a3.1.2.2.2.1), .int .i64 (a3.1.2.2.2.2)]) (new := [.bool (a3.1.1), .bool (a3.1.2.1), .int .i64 (a3.1.2.2.1), .int .i64 (a3.1.2.2.2.1), .int .i64 (a3.1.2.2.2.2)]) .hd sizeOf51 rfl rfl ?_
 refine aA ?_
 refine TL.shut .hd ?_
 intro f9 a5 g0
 have g1 : f9 b9 = some (.cells #[.bool (a3.1.1), .bool (a3.1.2.1), .int .i64 (a3.1.2.2.1), .int .i64 (a3.1.2.2.2.1), .int .i64 (a3.1.2.2.2.2)] 51) := shut1 g0
 refine nN (T.seq (T.block (sR (fA underlying31 rfl sizeOf28 ?_))))
 refine R.ldH isAgg28 rfl rfl (a5 _ _ d2) rfl ?_
 refine fA underlying47 rfl sizeOf44 ?_
 refine R.ldH isAgg44 rfl rfl ((a4.trans a5) _ _ e7) rfl ?_
 refine mA ?_
 obtain ⟨r29, c6⟩ : ∃ r, r = (k_2e a0.2.2.1 a1.2.1 a2) := ⟨_, rfl⟩
 refine TL.call [] rfl rfl rfl (trait_Replaced_c _ ((a6.trans (a4.trans a5)) _ _ hG0) _ a0.2.2.1 (a9.mono (a6.trans (a4.trans a5))) _ a1.2.1 (d1.mono (a6.trans (a4.trans a5))) (a2) bA bA) ?_
 intro v29 H29 L29 c7 q29
 rw [← c6] at q29
 obtain ⟨h2, h3, rfl, rfl, f0⟩ := q29
 obtain ⟨h4, h5, rfl, h6, h7⟩ := OwnS.shape f0
 have tR29 := repl_len _ _ _ _ c6
 refine R.len underlying44 rfl rfl ?_
 refine R.gtr rfl rfl rfl ?_
 refine aA ?_
 refine nN (T.condD rfl (fun c9 => ?_) (fun c9 => ?_))
 refine T.set 23 (.bool true) (congrArg Value.bool (decide_eq_true c9)) ?_
 refine sR (aA ?_)
 refine nN (T.has Has.nil ?_)
 refine T.ret (Post.blkR (Post.thnR ?_))
 have hM : k_7d a0 a1 a2 = 5 := by subst c6; subst c5; subst d3; rw [k_7d, LR.seq_go, LR.seq_go, LR.seq_go, if_pos c9]
 exact fin1L (v := .int .i64 5) [] rfl rfl (List.Sublist.refl _) ⟨rfl, by first | rw [hM] | rfl⟩
 refine T.set 23 (.bool false) (congrArg Value.bool (decide_eq_false c9)) ?_
 refine T.seq (T.cutK (ι := Bool) (fun b0 H' L' ds' => Has L' [] ∧ (if a3.1.1 = true then (if ((kindG a2) : Int) = 3 then (LR.seq (k_3c a0 a8.1) (fun e8 => (decide (a1.1 = a8.2) || leadsR e8 a8.2 a1.1))) else false) else false : Bool) = b0) (fun b0 => [(32, .bool (b0))]) ?_ ?_)
 refine T.draw k_2f kA ?_
 refine vP 0 [1, 2, 3, 4, 5, 6, 7, 8, 9, 10, 11, 12, 13, 14, 15, 16] rfl underlying51 rfl sizeOf4 ?_
 refine vA 1 [2, 3, 4, 5, 6, 7, 8, 9, 10, 11, 12, 13, 14, 15, 16] rfl (fun _ _ h_ => R.ldH isAgg4 rfl rfl (c7 _ _ g1) rfl (TL.nil h_)) ?_
 refine vM 2 [3, 4, 5, 6, 7, 8, 9, 10, 11, 12, 13, 14, 15, 16] rfl rfl cA ?_
 refine Plan.gsplit 35 rfl (fun e9 => ?_) (fun e9 => ?_)
 refine vM 3 [4, 5, 6, 7, 8, 9, 10, 11, 12, 13, 14, 15, 16] rfl rfl cA ?_
 refine vA 4 [5, 6, 7, 8, 9, 10, 11, 12, 13, 14, 15, 16] rfl (fun _ _ h_ => R.callv rfl rfl rfl (kindG_c _ a2) (TL.nil h_)) ?_
 refine vA 5 [6, 7, 8, 9, 10, 11, 12, 13, 14, 15, 16] rfl (fun _ _ h_ => R.eql rfl rfl rfl (TL.nil h_)) ?_
 refine vA 6 [7, 8, 9, 10, 11, 12, 13, 14, 15, 16] rfl (fun _ _ h_ => R.pkTE rfl rfl cA (TL.nil h_)) ?_
 refine vM 7 [8, 9, 10, 11, 12, 13, 14, 15, 16] rfl rfl cA ?_
 refine Plan.gsplitD 40 rfl (fun g40 => ?_) (fun g40 => ?_)
 refine vA 8 [9, 10, 11, 12, 13, 14, 15, 16] rfl (fun _ _ h_ => R.ldXH (cs := (c24 a0.1 [.int .i64 (a0.2.1.1), sl b6 a0.2.1.2.1 b7, sl b8 a0.2.1.2.2 c0, sl c1 a0.2.2.1 c2, sl c3 a0.2.2.2 c4])) (l := (c24 a0.1 [.int .i64 (a0.2.1.1), sl b6 a0.2.1.2.1 b7, sl b8 a0.2.1.2.2 c0, sl c1 a0.2.2.1 c2, sl c3 a0.2.2.2 c4])) isAgg31 sizeOf31 rfl rfl ((a5.trans c7) _ _ d2) rfl rfl (TL.nil h_)) ?_
 refine vM 9 [10, 11, 12, 13, 14, 15, 16] rfl rfl cA ?_
 refine vP 11 [10, 12, 13, 14, 15, 16] rfl underlying47 rfl sizeOf3 ?_
 refine vA 12 [10, 13, 14, 15, 16] rfl (fun _ _ h_ => R.ldH isAgg3 rfl rfl ((a4.trans (a5.trans c7)) _ _ e7) rfl (TL.nil h_)) ?_
 refine vM 13 [10, 14, 15, 16] rfl rfl cA ?_
 refine Plan.s1 10 [14, 15, 16] kA kA rfl ?_
 obtain ⟨e8, e2⟩ : ∃ r, r = (k_3c a0 a8.1) := ⟨_, rfl⟩
 refine TL.call [] rfl rfl rfl (state_links_c _ a0 _ (b1.mono (a6.trans (a4.trans (a5.trans c7)))) _ (b2.mono (a6.trans (a4.trans (a5.trans c7)))) _ (a9.mono (a6.trans (a4.trans (a5.trans c7)))) _ (b5.mono (a6.trans (a4.trans (a5.trans c7)))) (a8.1) bA) ?_
 intro v43 H43 L43 s43 q43
 rw [← e2] at q43
 obtain ⟨h8, h9, rfl, rfl, d0⟩ := q43
 obtain ⟨i0, i1, rfl, i2, i3⟩ := OwnS.shape d0
 have tl43 := links_len _ _ _ e2
 refine TL.nil (Plan.e1 (s43) ?_)
 refine Plan.s1 14 [15, 16] kA kA rfl ?_
 refine TL.shut .hd ?_
 intro g2 a7 d4
 have d5 := OwnS.read d0 a7 d4
 refine R.callv rfl rfl rfl (CH.closes_c _ _ e8 a1.1 d5 bA a8.2) ?_
 refine TL.nil (Plan.e1 (a7) ?_)
 refine vA 15 [16] rfl (fun _ _ h_ => R.pkTE rfl rfl cA (TL.nil h_)) ?_
 refine vA 16 [] rfl (fun _ _ h_ => aA (TL.nil h_)) ?_
 refine Plan.done (Post.thnN ?_)
 exact ⟨(decide (a1.1 = a8.2) || leadsR e8 a8.2 a1.1), (s43.trans a7), ⟨Has.nil, (by subst e2; rw [if_t e9, if_pos g40, LR.seq_go])⟩, rfl, trivial⟩
 refine vO 8 [9, 10, 11, 12, 13, 14, 15, 16] rfl rfl rfl rfl ?_
 refine vO 9 [10, 11, 12, 13, 14, 15, 16] rfl rfl rfl rfl ?_
 refine vO 10 [11, 12, 13, 14, 15, 16] rfl rfl rfl rfl ?_
 refine vO 11 [12, 13, 14, 15, 16] rfl rfl rfl rfl ?_
 refine vO 12 [13, 14, 15, 16] rfl rfl rfl rfl ?_
 refine vO 13 [14, 15, 16] rfl rfl rfl rfl ?_
 refine vO 14 [15, 16] rfl rfl rfl rfl ?_
 refine vA 15 [16] rfl (fun _ _ h_ => R.pkFE rfl rfl cA (TL.nil h_)) ?_
 refine vA 16 [] rfl (fun _ _ h_ => aA (TL.nil h_)) ?_
 refine Plan.done (Post.thnN ?_)
 exact ⟨false, HLe.refl _, ⟨Has.nil, (by rw [if_t e9, if_neg g40])⟩, rfl, trivial⟩
 refine vO 3 [4, 5, 6, 7, 8, 9, 10, 11, 12, 13, 14, 15, 16] rfl rfl rfl rfl ?_
 refine vO 4 [5, 6, 7, 8, 9, 10, 11, 12, 13, 14, 15, 16] rfl rfl rfl rfl ?_
 refine vO 5 [6, 7, 8, 9, 10, 11, 12, 13, 14, 15, 16] rfl rfl rfl rfl ?_
 refine vA 6 [7, 8, 9, 10, 11, 12, 13, 14, 15, 16] rfl (fun _ _ h_ => R.pkFE rfl rfl cA (TL.nil h_)) ?_
 refine vM 7 [8, 9, 10, 11, 12, 13, 14, 15, 16] rfl rfl cA ?_
 refine vO 8 [9, 10, 11, 12, 13, 14, 15, 16] rfl rfl rfl rfl ?_
 refine vO 9 [10, 11, 12, 13, 14, 15, 16] rfl rfl rfl rfl ?_
 refine vO 10 [11, 12, 13, 14, 15, 16] rfl rfl rfl rfl ?_
 refine vO 11 [12, 13, 14, 15, 16] rfl rfl rfl rfl ?_
 refine vO 12 [13, 14, 15, 16] rfl rfl rfl rfl ?_
 refine vO 13 [14, 15, 16] rfl rfl rfl rfl ?_
 refine vO 14 [15, 16] rfl rfl rfl rfl ?_
 refine vA 15 [16] rfl (fun _ _ h_ => R.pkFE rfl rfl cA (TL.nil h_)) ?_
 refine vA 16 [] rfl (fun _ _ h_ => aA (TL.nil h_)) ?_
 refine Plan.done (Post.thnN ?_)
 exact ⟨false, HLe.refl _, ⟨Has.nil, (by rw [if_f e9])⟩, rfl, trivial⟩
 intro b0 σ_c1 H_c1 L_c1 ds_c1 s_c1 g3
 obtain ⟨hLc1, d6⟩ := g3
 refine T.has hLc1 ?_
 refine T.cond rfl (fun c8 => ?_) (fun c8 => ?_)
 refine T.set 32 (.bool true) (congrArg Value.bool c8) ?_
 have e3 := d6.trans c8
 try simp only [or_f, or_t, and_f, and_t, decide_eq_true_eq, decide_eq_false_iff_not, Bool.not_eq_true'] at e3
 refine sR (aA ?_)
 refine nN (T.has Has.nil ?_)
 refine T.ret (Post.blkR (Post.thnR ?_))
 have hM : k_7d a0 a1 a2 = 270 := by subst c6; subst c5; subst d3; rw [k_7d, LR.seq_go, LR.seq_go, LR.seq_go, if_neg c9, d6, LR.seq_go, if_t c8]
 exact fin1L (v := .int .i64 270) [] rfl rfl (List.Sublist.refl _) ⟨rfl, by first | rw [hM] | rfl⟩
 refine T.set 32 (.bool false) (congrArg Value.bool c8) ?_
 have e3 := d6.trans c8
 try simp only [or_f, or_t, and_f, and_t, decide_eq_true_eq, decide_eq_false_iff_not, Bool.not_eq_true'] at e3
 refine T.skip (Post.blkN ?_)
 refine id (Post.thnN (sR ?_))
 refine aA ?_
 refine nN (T.has Has.nil ?_)
 refine T.ret ?_
 have hM : k_7d a0 a1 a2 = 0 := by subst c6; subst c5; subst d3; rw [k_7d, LR.seq_go, LR.seq_go, LR.seq_go, if_neg c9, d6, LR.seq_go, if_f c8]
 exact fin1L (v := .int .i64 0) [] rfl rfl (List.Sublist.refl _) ⟨rfl, by first | rw [hM] | rfl⟩
end Go.SX
namespace Go.SX
open Go Go.Proofs Go.Proofs.Tryz
def k_1e (a0 : Int) (a1 : W24) : (ZS) × Int :=
  LR.seq (k_8b a0) (fun r10 => if r10.2 ≠ 0 then ((((((fun _ => 0) : W24), (0, [], []), [], []) : ZS), r10.2)) else (if ((k_98 a1) : Int) ≠ 0 then ((((((fun _ => 0) : W24), (0, [], []), [], []) : ZS), 141)) else (LR.seq (trait_New_m) (fun r25 => (((a1, (r10.1.1, r10.1.2.1, r10.1.2.2), r25, [((1, [], []) : ZR), ((2, [], []) : ZR)]) : ZS), 0)))))
theorem state_New_c (H : Heap) {tG0 : TypeId} (hG0 : gF H 0 tG0) {tG1 : TypeId} (hG1 : gA H 1 tG1) (a0 : Int) (a1 : W24) : Fc Tryz.prog (fnv 34) [.int .i64 a0, .agg (c24 a1 []).toArray] H [] (fun v' H' L' => ∃ d2 d3 d4 d5 d6 d7, v' = .tuple #[.agg (c24 (k_1e a0 a1).1.1 [.int .i64 (k_1e a0 a1).1.2.1.1, d2, d3, d4, d5]).toArray, .int .i64 (k_1e a0 a1).2] ∧ L' = [d6, d7] ∧ RdS slotE H' d2 (k_1e a0 a1).1.2.1.2.1 ∧ RdS (intE .i64) H' d3 (k_1e a0 a1).1.2.1.2.2 ∧ OwnS relationE 55 H' d4 (k_1e a0 a1).1.2.2.1 d6 ∧ OwnS rowE 47 H' d5 (k_1e a0 a1).1.2.2.2 d7) := by
 refine Fc.of_body (N := 30) func34 rfl kA rfl rfl ?_
 intro w0
 refine sR (R.box rfl cA ?_)
 intro b3
 refine R.alloc zeroValue31 rfl ?_
 intro b4
 refine aA ?_
 refine TL.shut (.tl .hd) ?_
 intro e5 c8 e6
 have d8 : e5 b3 = some (.cells (c24 a1 []).toArray 23) := shut1 e6
 refine nN (sR (mA ?_))
 obtain ⟨a2, c1⟩ : ∃ r, r = (k_8b a0) := ⟨_, rfl⟩
 refine TL.call [] rfl rfl rfl (alloc_New_c _ (c8 _ _ hG1) (a0)) ?_
 intro v10 H10 L10 d9 q10
 rw [← c1] at q10
 obtain ⟨f1, f2, f3, f4, rfl, rfl, c5, c6⟩ := q10
 obtain ⟨a3, a4, rfl, f5, f6⟩ := OwnS.shape c5
 obtain ⟨a5, a6, rfl, f7, f8⟩ := OwnS.shape c6
 have tn10 : a2.1.2.1.length ≤ 2 ∧ a2.1.2.2.length ≤ 0 := by rw [c1]; exact new_len _
 refine mA ?_
 refine R.ext rfl rfl rfl ?_
 refine R.ext rfl rfl rfl ?_
 refine R.alloc zeroValue27 rfl ?_
 intro b6
 refine stY (l := [.int .i64 (a2.1.1), sl a3 a2.1.2.1 a4, sl a5 a2.1.2.2 a6]) (new := [.int .i64 (a2.1.1), sl a3 a2.1.2.1 a4, sl a5 a2.1.2.2 a6]) .hd sizeOf27 rfl rfl ?_
 refine aA ?_
 refine TL.shut (.tl .hd) ?_
 intro e7 b1 c9
 have b9 := OwnS.read c5 b1 c9
 refine TL.shut (.tl .hd) ?_
 intro e8 a9 d0
 have c0 := OwnS.read (OwnS.mono c6 b1) a9 d0
 refine TL.shut .hd ?_
 intro e0 b7 e9
 have f0 : e0 b6 = some (.cells #[.int .i64 (a2.1.1), .slice a3 a2.1.2.1.length a4, .slice a5 a2.1.2.2.length a6] 27) := shut1 e9
 refine nN (T.seq (T.block (sR (mA ?_))))
 refine R.neq rfl rfl rfl ?_
 refine aA ?_
 refine nN (T.condD rfl (fun c3 => ?_) (fun c3 => ?_))
 refine T.set 13 (.bool true) (congrArg Value.bool (decide_eq_true c3)) ?_
 refine sR (R.bld (cs := zSt) rfl (fun _ => by kernel_rfl) ?_)
 refine mA ?_
 refine stY (l := zSt) (new := zSt) .hd sizeOf31 rfl rfl ?_
 refine aA ?_
 refine nN (T.has (Has.none (Has.none (Has.cons .hd Has.nil))) ?_)
 refine T.ret (Post.blkR (Post.thnR ?_))
 have hM : k_1e a0 a1 = (((((fun _ => 0) : W24), (0, [], []), [], []) : ZS), a2.2) := by subst c1; rw [k_1e, LR.seq_go, if_pos c3]
 exact finR2 (v := .agg zSt.toArray) (v' := .int .i64 (a2.2)) [[], []] rfl (.cellA (cs := zSt) (l := zSt) isAgg31 sizeOf31 rfl (.tl (.tl .hd)) rfl rfl) (.tmp rfl) (List.sublist_append_left ([[], []] : Own) _) ⟨.slice none 0 0, .slice none 0 0, .slice none 0 0, .slice none 0 0, [], [], by first | rw [hM] | rfl, rfl, by rw [hM]; exact RdS.nil, by rw [hM]; exact RdS.nil, by rw [hM]; exact OwnS.nil, by rw [hM]; exact OwnS.nil⟩
 refine T.set 13 (.bool false) (congrArg Value.bool (decide_eq_false c3)) ?_
 refine sR (R.ldXH (cs := (c24 a1 [])) (l := (c24 a1 [])) isAgg23 sizeOf23 rfl rfl ((d9.trans (b1.trans (a9.trans b7))) _ _ d8) rfl rfl ?_)
 refine R.callv rfl rfl rfl (value_Wide_c _ a1) ?_
 refine R.neq rfl rfl rfl ?_
 refine aA ?_
 refine nN (T.condD rfl (fun c7 => ?_) (fun c7 => ?_))
 refine T.set 18 (.bool true) (congrArg Value.bool (decide_eq_true c7)) ?_
 refine sR (R.bld (cs := zSt) rfl (fun _ => by kernel_rfl) ?_)
 refine stY (l := zSt) (new := zSt) .hd sizeOf31 rfl rfl ?_
 refine aA ?_
 refine nN (T.has (Has.none (Has.none (Has.cons .hd Has.nil))) ?_)
 refine T.ret (Post.blkR (Post.thnR ?_))
 have hM : k_1e a0 a1 = (((((fun _ => 0) : W24), (0, [], []), [], []) : ZS), 141) := by subst c1; rw [k_1e, LR.seq_go, if_neg c3, if_pos c7]
 exact finR2 (v := .agg zSt.toArray) (v' := .int .i64 141) [[], []] rfl (.cellA (cs := zSt) (l := zSt) isAgg31 sizeOf31 rfl (.tl (.tl .hd)) rfl rfl) (.tmp rfl) (List.sublist_append_left ([[], []] : Own) _) ⟨.slice none 0 0, .slice none 0 0, .slice none 0 0, .slice none 0 0, [], [], by first | rw [hM] | rfl, rfl, by rw [hM]; exact RdS.nil, by rw [hM]; exact RdS.nil, by rw [hM]; exact OwnS.nil, by rw [hM]; exact OwnS.nil⟩
 refine T.set 18 (.bool false) (congrArg Value.bool (decide_eq_false c7)) ?_
 refine T.skip (Post.blkN ?_)
 refine id (Post.thnN (T.seq ?_))
 refine T.draw k_2f kA ?_
 refine vA 0 [1, 2, 3, 4, 5, 6, 7, 8] rfl (fun _ _ h_ => R.ldXH (cs := (c24 a1 [])) (l := (c24 a1 [])) isAgg23 sizeOf23 rfl rfl ((d9.trans (b1.trans (a9.trans b7))) _ _ d8) rfl rfl (TL.nil h_)) ?_
 refine vA 1 [2, 3, 4, 5, 6, 7, 8] rfl (fun _ _ h_ => R.ldXH (cs := [.int .i64 (a2.1.1), sl a3 a2.1.2.1 a4, sl a5 a2.1.2.2 a6]) (l := [.int .i64 (a2.1.1), sl a3 a2.1.2.1 a4, sl a5 a2.1.2.2 a6]) isAgg27 sizeOf27 rfl rfl f0 rfl rfl (TL.nil h_)) ?_
 refine vA 3 [2, 4, 5, 6, 7, 8] rfl (fun _ _ h_ => R.bld (cs := [.int .i64 1, .slice none 0 0, .slice none 0 0]) rfl (fun _ => by kernel_rfl) (TL.nil h_)) ?_
 refine vA 4 [2, 5, 6, 7, 8] rfl (fun _ _ h_ => R.bld (cs := [.int .i64 2, .slice none 0 0, .slice none 0 0]) rfl (fun _ => by kernel_rfl) (TL.nil h_)) ?_
 refine Plan.s2 2 5 [5, 6, 7, 8] [2, 6, 7, 8] kA kA kA rfl rfl ?_ ?_
 obtain ⟨b5, c4⟩ : ∃ r, r = trait_New_m := ⟨_, rfl⟩
 refine TL.call [] rfl rfl rfl (trait_New_c _ ((c8.trans (d9.trans (b1.trans (a9.trans b7)))) _ _ hG0)) ?_
 intro v25 H25 L25 c2 d1
 rw [← c4] at d1
 obtain ⟨e2, b2, rfl, rfl, b8⟩ := d1
 obtain ⟨a7, a8, rfl, e3, e4⟩ := OwnS.shape b8
 refine TL.nil (Plan.e1 (c2) ?_)
 refine Plan.s1 5 [6, 7, 8] kA kA rfl ?_
 refine R.bs (e := 47) (cs := [.int .i64 1, .slice none 0 0, .slice none 0 0, .int .i64 2, .slice none 0 0, .slice none 0 0]) rfl (fun _ => by kernel_rfl) ?_
 intro b0
 have w28 : OwnS rowE 47 H25 (.slice (some ⟨b0, 0, none⟩) 2 2) [((1, [], []) : ZR), ((2, [], []) : ZR)] [(b0, .cells #[.int .i64 1, .slice none 0 0, .slice none 0 0, .int .i64 2, .slice none 0 0, .slice none 0 0] 47)] := OwnS.lit (xs := [((1, [], []) : ZR), ((2, [], []) : ZR)]) (k_5 (a := [.int .i64 1, .slice none 0 0, .slice none 0 0]) ⟨_, _, rfl, RdS.nil, RdS.nil⟩ (k_5 (a := [.int .i64 2, .slice none 0 0, .slice none 0 0]) ⟨_, _, rfl, RdS.nil, RdS.nil⟩ k_7)) (by show 2 ≤ maxLen; decide)
 refine eA ?_
 refine vA 6 [7, 8] rfl (fun _ _ h_ => R.bld (cs := (c24 a1 [.int .i64 (a2.1.1), sl a3 a2.1.2.1 a4, sl a5 a2.1.2.2 a6, sl a7 b5 a8, .slice (some ⟨b0, 0, none⟩) 2 2])) rfl (fun _ => by kernel_rfl) (TL.nil h_)) ?_
 refine Plan.s1 7 [8] kA kA rfl ?_
 refine stY (l := (c24 a1 [.int .i64 (a2.1.1), sl a3 a2.1.2.1 a4, sl a5 a2.1.2.2 a6, sl a7 b5 a8, .slice (some ⟨b0, 0, none⟩) 2 2])) (new := (c24 a1 [.int .i64 (a2.1.1), sl a3 a2.1.2.1 a4, sl a5 a2.1.2.2 a6, sl a7 b5 a8, .slice (some ⟨b0, 0, none⟩) 2 2])) (.tl (.tl .hd)) sizeOf31 rfl rfl ?_
 refine eB ?_
 refine vA 8 [] rfl (fun _ _ h_ => aA (TL.nil h_)) ?_
 refine Plan.done (Post.thnN ?_)
 refine T.has (Has.cons (.tl .hd) (Has.cons .hd (Has.cons .hd Has.nil))) ?_
 refine T.ret ?_
 have hM : k_1e a0 a1 = (((a1, (a2.1.1, a2.1.2.1, a2.1.2.2), b5, [((1, [], []) : ZR), ((2, [], []) : ZR)]) : ZS), 0) := by subst c4; subst c1; rw [k_1e, LR.seq_go, if_neg c3, if_neg c7, LR.seq_go]
 exact finR2 (v := .agg (c24 a1 [.int .i64 (a2.1.1), sl a3 a2.1.2.1 a4, sl a5 a2.1.2.2 a6, sl a7 b5 a8, .slice (some ⟨b0, 0, none⟩) 2 2]).toArray) (v' := .int .i64 0) [b2, [(b0, .cells #[.int .i64 1, .slice none 0 0, .slice none 0 0, .int .i64 2, .slice none 0 0, .slice none 0 0] 47)]] rfl (.cellA (cs := (c24 a1 [.int .i64 (a2.1.1), sl a3 a2.1.2.1 a4, sl a5 a2.1.2.2 a6, sl a7 b5 a8, .slice (some ⟨b0, 0, none⟩) 2 2])) (l := (c24 a1 [.int .i64 (a2.1.1), sl a3 a2.1.2.1 a4, sl a5 a2.1.2.2 a6, sl a7 b5 a8, .slice (some ⟨b0, 0, none⟩) 2 2])) isAgg31 sizeOf31 rfl (.tl (.tl .hd)) rfl rfl) (.tmp rfl) (List.sublist_append_left ([b2, [(b0, .cells #[.int .i64 1, .slice none 0 0, .slice none 0 0, .int .i64 2, .slice none 0 0, .slice none 0 0] 47)]] : Own) _) ⟨sl a3 a2.1.2.1 a4, sl a5 a2.1.2.2 a6, sl a7 b5 a8, .slice (some ⟨b0, 0, none⟩) 2 2, b2, [(b0, .cells #[.int .i64 1, .slice none 0 0, .slice none 0 0, .int .i64 2, .slice none 0 0, .slice none 0 0] 47)], by first | rw [hM] | rfl, rfl, by rw [hM]; exact (b9.mono (a9.trans (b7.trans c2))), by rw [hM]; exact (c0.mono (b7.trans c2)), by rw [hM]; exact b8, by rw [hM]; exact w28⟩
 refine R.bs (e := 47) (cs := [.int .i64 1, .slice none 0 0, .slice none 0 0, .int .i64 2, .slice none 0 0, .slice none 0 0]) rfl (fun _ => by kernel_rfl) ?_
 intro b0
 have w28 : OwnS rowE 47 e0 (.slice (some ⟨b0, 0, none⟩) 2 2) [((1, [], []) : ZR), ((2, [], []) : ZR)] [(b0, .cells #[.int .i64 1, .slice none 0 0, .slice none 0 0, .int .i64 2, .slice none 0 0, .slice none 0 0] 47)] := OwnS.lit (xs := [((1, [], []) : ZR), ((2, [], []) : ZR)]) (k_5 (a := [.int .i64 1, .slice none 0 0, .slice none 0 0]) ⟨_, _, rfl, RdS.nil, RdS.nil⟩ (k_5 (a := [.int .i64 2, .slice none 0 0, .slice none 0 0]) ⟨_, _, rfl, RdS.nil, RdS.nil⟩ k_7)) (by show 2 ≤ maxLen; decide)
 refine eA ?_
 refine Plan.s1 2 [6, 7, 8] kA kA rfl ?_
 obtain ⟨b5, c4⟩ : ∃ r, r = trait_New_m := ⟨_, rfl⟩
 refine TL.call [] rfl rfl rfl (trait_New_c _ ((c8.trans (d9.trans (b1.trans (a9.trans b7)))) _ _ hG0)) ?_
 intro v25 H25 L25 c2 d1
 rw [← c4] at d1
 obtain ⟨e2, b2, rfl, rfl, b8⟩ := d1
 obtain ⟨a7, a8, rfl, e3, e4⟩ := OwnS.shape b8
 refine TL.nil (Plan.e1 (c2) ?_)
 refine vA 6 [7, 8] rfl (fun _ _ h_ => R.bld (cs := (c24 a1 [.int .i64 (a2.1.1), sl a3 a2.1.2.1 a4, sl a5 a2.1.2.2 a6, sl a7 b5 a8, .slice (some ⟨b0, 0, none⟩) 2 2])) rfl (fun _ => by kernel_rfl) (TL.nil h_)) ?_
 refine Plan.s1 7 [8] kA kA rfl ?_
 refine stY (l := (c24 a1 [.int .i64 (a2.1.1), sl a3 a2.1.2.1 a4, sl a5 a2.1.2.2 a6, sl a7 b5 a8, .slice (some ⟨b0, 0, none⟩) 2 2])) (new := (c24 a1 [.int .i64 (a2.1.1), sl a3 a2.1.2.1 a4, sl a5 a2.1.2.2 a6, sl a7 b5 a8, .slice (some ⟨b0, 0, none⟩) 2 2])) (.tl (.tl .hd)) sizeOf31 rfl rfl ?_
 refine eB ?_
 refine vA 8 [] rfl (fun _ _ h_ => aA (TL.nil h_)) ?_
 refine Plan.done (Post.thnN ?_)
 refine T.has (Has.cons .hd (Has.cons .hd (Has.cons .hd Has.nil))) ?_
 refine T.ret ?_
 have hM : k_1e a0 a1 = (((a1, (a2.1.1, a2.1.2.1, a2.1.2.2), b5, [((1, [], []) : ZR), ((2, [], []) : ZR)]) : ZS), 0) := by subst c4; subst c1; rw [k_1e, LR.seq_go, if_neg c3, if_neg c7, LR.seq_go]
 exact finR2 (v := .agg (c24 a1 [.int .i64 (a2.1.1), sl a3 a2.1.2.1 a4, sl a5 a2.1.2.2 a6, sl a7 b5 a8, .slice (some ⟨b0, 0, none⟩) 2 2]).toArray) (v' := .int .i64 0) [b2, [(b0, .cells #[.int .i64 1, .slice none 0 0, .slice none 0 0, .int .i64 2, .slice none 0 0, .slice none 0 0] 47)]] rfl (.cellA (cs := (c24 a1 [.int .i64 (a2.1.1), sl a3 a2.1.2.1 a4, sl a5 a2.1.2.2 a6, sl a7 b5 a8, .slice (some ⟨b0, 0, none⟩) 2 2])) (l := (c24 a1 [.int .i64 (a2.1.1), sl a3 a2.1.2.1 a4, sl a5 a2.1.2.2 a6, sl a7 b5 a8, .slice (some ⟨b0, 0, none⟩) 2 2])) isAgg31 sizeOf31 rfl (.tl (.tl .hd)) rfl rfl) (.tmp rfl) (List.sublist_append_left ([b2, [(b0, .cells #[.int .i64 1, .slice none 0 0, .slice none 0 0, .int .i64 2, .slice none 0 0, .slice none 0 0] 47)]] : Own) _) ⟨sl a3 a2.1.2.1 a4, sl a5 a2.1.2.2 a6, sl a7 b5 a8, .slice (some ⟨b0, 0, none⟩) 2 2, b2, [(b0, .cells #[.int .i64 1, .slice none 0 0, .slice none 0 0, .int .i64 2, .slice none 0 0, .slice none 0 0] 47)], by first | rw [hM] | rfl, rfl, by rw [hM]; exact (b9.mono (a9.trans (b7.trans c2))), by rw [hM]; exact (c0.mono (b7.trans c2)), by rw [hM]; exact b8, by rw [hM]; exact (OwnS.mono w28 c2)⟩
def k_6 (a0 : ZR) (a1 : Int → Bool) : List Int → Nat → (ZR) → ZR
  | [], kl1, sl1 => (sl1.1, sl1.2.1, sl1.2.2)
  | yl1 :: ysl1, kl1, sl1 => if (!(a1 yl1)) = true then (k_6 a0 a1 ysl1 (kl1 + 1) ((sl1.1, (sl1.2.1 ++ [yl1]), (sl1.2.2 ++ [(a0.2.2.getD kl1 ([] : List Int))])))) else (k_6 a0 a1 ysl1 (kl1 + 1) ((sl1.1, sl1.2.1, sl1.2.2)))
def k_9a (a0 : ZR) (a1 : Int → Bool) : (ZR) :=
  LR.seq (k_6 a0 a1 a0.2.1 0 ((a0.1, [], []))) (fun ol1 => (ol1.1, ol1.2.1, ol1.2.2))
theorem state_without_c (H : Heap) (a0 : ZR) (g0 : Value) (f4 : RdS (intE .u64) H g0 a0.2.1) (g1 : Value) (f5 : RdS (slE (intE .u64)) H g1 a0.2.2) (g2 : Value) (a1 : Int → Bool) (ha1 : ∀ H', HLe H H' → ∀ (z0 : Int), Fv Tryz.prog g2 [.int .u64 z0] H' (.bool (a1 z0))) (na1 : g2.oneCell' = true) (hR : RowS a0) (hl : a0.2.2.length = a0.2.1.length) : Fc Tryz.prog (fnv 102) [.agg #[.int .i64 a0.1, g0, g1], g2] H [] (fun v' H' L' => ∃ g5 g6 g7 g8, v' = .agg #[.int .i64 (k_9a a0 a1).1, g5, g6] ∧ L' = [g7, g8] ∧ OwnS (intE .u64) 39 H' g5 (k_9a a0 a1).2.1 g7 ∧ OwnS (slE (intE .u64)) 64 H' g6 (k_9a a0 a1).2.2 g8) := by
 refine Fc.of_body (N := 41) func102 rfl kA rfl rfl ?_
 intro w0
 obtain ⟨g3, g4, rfl, hca0_1, hda0_1, f4⟩ := f4.shape
 obtain ⟨g9, h0, rfl, hca0_2, hda0_2, f5⟩ := f5.shape
 have hr1 := hR.t
 have hr2 := hR.v
 refine sR (R.box rfl cA ?_)
 intro b2
 refine R.alloc zeroValue47 rfl ?_
 intro b4
 refine TL.shut (.tl .hd) ?_
 intro h1 f6 h2
 have f7 : h1 b2 = some (.cells #[.int .i64 (a0.1), .slice g3 a0.2.1.length g4, .slice g9 a0.2.2.length h0] 47) := shut1 h2
 refine nN (sR (fA underlying47 rfl sizeOf3 ?_))
 refine R.ldH isAgg3 rfl rfl f7 rfl ?_
 refine R.bld (cs := [.int .i64 (a0.1), .slice none 0 0, .slice none 0 0]) rfl (fun _ => by kernel_rfl) ?_
 refine R.alloc zeroValue47 rfl ?_
 intro b5
 refine stY (l := [.int .i64 (a0.1), .slice none 0 0, .slice none 0 0]) (new := [.int .i64 (a0.1), .slice none 0 0, .slice none 0 0]) .hd sizeOf47 rfl rfl ?_
 refine nN (T.seq (sR (fA underlying47 rfl sizeOf44 ?_)))
 refine R.ldH isAgg44 rfl rfl f7 rfl ?_
 refine R.len underlying44 rfl rfl ?_
 refine mA ?_
 refine nN (T.block (T.loop (ι := Nat × Int × Value × (List Int) × Chunk × Value × (List (List Int)) × Chunk) (fun ⟨b1, a4, f2, a3, e8, f3, a2, e9⟩ H' L' ds' => b1 ≤ a0.2.1.length ∧ Has L' [[(b5, .cells #[.int .i64 a4, f2, f3] 47)], [(b4, .cells #[.int .i64 0, .slice none 0 0, .slice none 0 0] 47)], e8, e9] ∧ OwnS (intE .u64) 39 H' f2 a3 e8 ∧ OwnS (slE (intE .u64)) 64 H' f3 a2 e9 ∧ a3.length ≤ b1 ∧ a2.length = a3.length ∧ k_6 a0 a1 (a0.2.1.drop b1) b1 ((a4, a3, a2)) = k_6 a0 a1 a0.2.1 0 ((a0.1, [], []))) (fun ⟨b1, a4, f2, a3, e8, f3, a2, e9⟩ => [(14, .int .i64 (b1 : Int)), (1, g2), (2, .pointer (some ⟨b2, 0, none⟩)), (4, .pointer (some ⟨b4, 0, none⟩)), (5, .pointer (some ⟨b5, 0, none⟩)), (12, .slice g3 a0.2.1.length g4), (13, .int .i64 (a0.2.1.length : Int))]) (fun ⟨b1, a4, f2, a3, e8, f3, a2, e9⟩ => a0.2.1.length - b1) (0, a0.1, .slice none 0 0, [], [], .slice none 0 0, [], []) ?_ ?_ ?_))
 exact ⟨oA, (Has.cons .hd (Has.cons .hd (Has.none (Has.none Has.nil)))), OwnS.nil, OwnS.nil, bA, bA, (by rfl)⟩
 exact ⟨rfl, rfl, rfl, rfl, rfl, rfl, rfl, trivial⟩
 intro ⟨b1, a4, f2, a3, e8, f3, a2, e9⟩ σ_l1 c9 L_l1 ds_l1 c8 f8
 obtain ⟨hkl1, f8⟩ := f8
 obtain ⟨hLl1, c0, b9, hBl1_0, hBl1_1, d0⟩ := f8
 obtain ⟨f0, f1, rfl, h5, h3⟩ := OwnS.shape c0
 obtain ⟨b6, b7, rfl, h6, h4⟩ := OwnS.shape b9
 refine T.has hLl1 ?_
 refine sR (R.lss rfl rfl rfl ?_)
 refine nN (T.seq (T.condD rfl (fun c15 => ?_) (fun c15 => ?_)))
 have hltl1 : b1 < a0.2.1.length := by omega
 obtain ⟨a5, d1⟩ := getk (xs := a0.2.1) (k := b1) oA
 refine T.skip (Post.thnN (T.seq ?_))
 refine T.block (sR (mA ?_))
 obtain ⟨b17, o17, i17, k17⟩ := RdS.elem (f4.mono (f6.trans c8)) d1
 obtain ⟨l17, g17, k17⟩ := k17
 obtain rfl : l17 = [.int .u64 a5] := g17
 refine R.ixp underlying44 sizeOf39 rfl rfl rfl oA i17 ?_
 refine R.ldC isAgg39 rfl rfl (k17 0 _ rfl) ?_
 refine aA ?_
 refine aA ?_
 refine nN (sR (mA ?_))
 refine mA ?_
 refine R.callv rfl rfl rfl (ha1 _ (f6.trans c8) (a5)) ?_
 refine R.not rfl rfl ?_
 refine nN (T.cond rfl (fun d5 => ?_) (fun d5 => ?_))
 refine T.set 22 (.bool true) (congrArg Value.bool d5) ?_
 refine T.draw k_2f kA ?_
 refine vP 0 [1, 2, 3, 4, 5, 6, 7, 8, 9, 10, 11, 12, 13, 14, 15, 16, 17] rfl underlying47 rfl sizeOf44 ?_
 refine vM 2 [1, 3, 4, 5, 6, 7, 8, 9, 10, 11, 12, 13, 14, 15, 16, 17] rfl rfl cA ?_
 refine vP 5 [1, 3, 4, 6, 7, 8, 9, 10, 11, 12, 13, 14, 15, 16, 17] rfl underlying47 rfl sizeOf45 ?_
 refine vP 7 [1, 3, 4, 6, 8, 9, 10, 11, 12, 13, 14, 15, 16, 17] rfl underlying47 rfl sizeOf45 ?_
 refine vA 8 [1, 3, 4, 6, 9, 10, 11, 12, 13, 14, 15, 16, 17] rfl (fun _ _ h_ => R.ldH isAgg45 rfl rfl (c8 _ _ f7) rfl (TL.nil h_)) ?_
 refine vM 9 [1, 3, 4, 6, 10, 11, 12, 13, 14, 15, 16, 17] rfl rfl cA ?_
 have f9 : b1 < a0.2.2.length := bA
 obtain ⟨a6, d8, h33⟩ : ∃ y, y = (a0.2.2.getD b1 ([] : List Int)) ∧ a0.2.2[b1]? = some y := ⟨_, rfl, k_46 (by first | exact f9 | simpa using f9 | (simp only [List.length_set]; omega) | omega | (rw [(k_26 _).length_eq]; exact f9))⟩
 obtain ⟨b33, o33, i33, k33⟩ := RdS.elem (f5.mono (f6.trans c8)) h33
 obtain ⟨l33, g33, k33⟩ := k33
 obtain ⟨z33_0, rfl, d4⟩ := g33
 obtain ⟨d6, d7, rfl, m33_0, n33_0, d4⟩ := d4.shape
 refine vA 10 [1, 3, 4, 6, 11, 12, 13, 14, 15, 16, 17] rfl (fun _ _ h_ => R.ixp underlying45 sizeOf64 rfl rfl rfl bA i33 (TL.nil h_)) ?_
 refine vA 11 [1, 3, 4, 6, 12, 13, 14, 15, 16, 17] rfl (fun _ _ h_ => R.ldC isAgg64 rfl rfl (k33 0 _ rfl) (TL.nil h_)) ?_
 refine Plan.s4 1 3 6 12 [3, 4, 6, 12, 13, 14, 15, 16, 17] [1, 4, 6, 12, 13, 14, 15, 16, 17] [1, 3, 4, 12, 13, 14, 15, 16, 17] [1, 3, 4, 6, 13, 14, 15, 16, 17] kA kA kA kA kA rfl rfl rfl rfl ?_ ?_ ?_ ?_
 refine R.ld isAgg44 rfl rfl .hd rfl ?_
 refine eA ?_
 refine Plan.s3 3 6 12 [4, 6, 12, 13, 14, 15, 16, 17] [3, 4, 12, 13, 14, 15, 16, 17] [3, 4, 6, 13, 14, 15, 16, 17] kA kA kA kA rfl rfl rfl ?_ ?_ ?_
 refine R.bs rfl (k_4 underlying44 sizeOf39 zeroValue39 rfl rfl) ?_
 intro e7
 have d2 := lit1 (E := (intE .u64)) (e := 39) (H := c9) (b := e7) (y := a5) (a := [.int .u64 a5]) rfl
 refine eA ?_
 refine Plan.s3 4 6 12 [6, 12, 13, 14, 15, 16, 17] [4, 12, 13, 14, 15, 16, 17] [4, 6, 13, 14, 15, 16, 17] kA kA kA kA rfl rfl rfl ?_ ?_ ?_
 obtain ⟨e3, c5, c6⟩ := Src.ownA d2
 refine R.app (E := (intE .u64)) (e := 39) (xs := a3) (ys := [a5]) k_2b rfl rfl rfl c0 (.tl (.tl (.tl .hd))) (c6 _ .hd) c5 lA lA ?_
 intro e4 c4 b8
 obtain ⟨a7, a8, rfl, e5, e6⟩ := OwnS.shape b8
 refine TL.del (.tl .hd) ?_
 refine eA ?_
 refine Plan.s2 6 12 [12, 13, 14, 15, 16, 17] [6, 13, 14, 15, 16, 17] kA kA kA rfl rfl ?_ ?_
 refine R.ld isAgg45 rfl rfl (.tl .hd) rfl ?_
 refine eA ?_
 refine vP 14 [12, 13, 15, 16, 17] rfl underlying47 rfl sizeOf44 ?_
 refine Plan.s1 12 [13, 15, 16, 17] kA kA rfl ?_
 refine R.bs rfl (k_4 underlying45 sizeOf64 zeroValue64 rfl rfl) ?_
 intro d3
 have c7 := lit1 (E := (slE (intE .u64))) (e := 64) (H := c9) (b := d3) (y := a6) (a := [.slice d6 a6.length d7]) ⟨_, rfl, d4⟩
 refine eA ?_
 rotate_left
 refine R.bs rfl (k_4 underlying45 sizeOf64 zeroValue64 rfl rfl) ?_
 intro d3
 have c7 := lit1 (E := (slE (intE .u64))) (e := 64) (H := c9) (b := d3) (y := a6) (a := [.slice d6 a6.length d7]) ⟨_, rfl, d4⟩
 refine eA ?_
 refine Plan.s1 6 [13, 14, 15, 16, 17] kA kA rfl ?_
 refine R.ld isAgg45 rfl rfl (.tl (.tl .hd)) rfl ?_
 refine eA ?_
 refine vP 14 [13, 15, 16, 17] rfl underlying47 rfl sizeOf44 ?_
 rotate_left
 refine R.ld isAgg45 rfl rfl (.tl .hd) rfl ?_
 refine eA ?_
 refine Plan.s2 4 12 [12, 13, 14, 15, 16, 17] [4, 13, 14, 15, 16, 17] kA kA kA rfl rfl ?_ ?_
 obtain ⟨e3, c5, c6⟩ := Src.ownA d2
 refine R.app (E := (intE .u64)) (e := 39) (xs := a3) (ys := [a5]) k_2b rfl rfl rfl c0 (.tl (.tl (.tl .hd))) (c6 _ .hd) c5 lA lA ?_
 intro e4 c4 b8
 obtain ⟨a7, a8, rfl, e5, e6⟩ := OwnS.shape b8
 refine TL.del (.tl .hd) ?_
 refine eA ?_
 refine vP 14 [12, 13, 15, 16, 17] rfl underlying47 rfl sizeOf44 ?_
 refine Plan.s1 12 [13, 15, 16, 17] kA kA rfl ?_
 refine R.bs rfl (k_4 underlying45 sizeOf64 zeroValue64 rfl rfl) ?_
 intro d3
 have c7 := lit1 (E := (slE (intE .u64))) (e := 64) (H := c9) (b := d3) (y := a6) (a := [.slice d6 a6.length d7]) ⟨_, rfl, d4⟩
 refine eA ?_
 rotate_left
 refine R.bs rfl (k_4 underlying45 sizeOf64 zeroValue64 rfl rfl) ?_
 intro d3
 have c7 := lit1 (E := (slE (intE .u64))) (e := 64) (H := c9) (b := d3) (y := a6) (a := [.slice d6 a6.length d7]) ⟨_, rfl, d4⟩
 refine eA ?_
 refine Plan.s1 4 [13, 14, 15, 16, 17] kA kA rfl ?_
 obtain ⟨e3, c5, c6⟩ := Src.ownA d2
 refine R.app (E := (intE .u64)) (e := 39) (xs := a3) (ys := [a5]) k_2b rfl rfl rfl c0 (.tl (.tl (.tl (.tl .hd)))) (c6 _ (.tl .hd)) c5 lA lA ?_
 intro e4 c4 b8
 obtain ⟨a7, a8, rfl, e5, e6⟩ := OwnS.shape b8
 refine TL.del (.tl (.tl .hd)) ?_
 rotate_left
 refine R.bs rfl (k_4 underlying45 sizeOf64 zeroValue64 rfl rfl) ?_
 intro d3
 have c7 := lit1 (E := (slE (intE .u64))) (e := 64) (H := c9) (b := d3) (y := a6) (a := [.slice d6 a6.length d7]) ⟨_, rfl, d4⟩
 refine eA ?_
 refine Plan.s2 4 6 [6, 13, 14, 15, 16, 17] [4, 13, 14, 15, 16, 17] kA kA kA rfl rfl ?_ ?_
 obtain ⟨e3, c5, c6⟩ := Src.ownA d2
 refine R.app (E := (intE .u64)) (e := 39) (xs := a3) (ys := [a5]) k_2b rfl rfl rfl c0 (.tl (.tl (.tl (.tl .hd)))) (c6 _ (.tl .hd)) c5 lA lA ?_
 intro e4 c4 b8
 obtain ⟨a7, a8, rfl, e5, e6⟩ := OwnS.shape b8
 refine TL.del (.tl (.tl .hd)) ?_
 refine eA ?_
 refine Plan.s1 6 [13, 14, 15, 16, 17] kA kA rfl ?_
 refine R.ld isAgg45 rfl rfl (.tl (.tl .hd)) rfl ?_
 rotate_left
 refine R.ld isAgg45 rfl rfl (.tl (.tl .hd)) rfl ?_
 refine eA ?_
 refine Plan.s1 4 [13, 14, 15, 16, 17] kA kA rfl ?_
 obtain ⟨e3, c5, c6⟩ := Src.ownA d2
 refine R.app (E := (intE .u64)) (e := 39) (xs := a3) (ys := [a5]) k_2b rfl rfl rfl c0 (.tl (.tl (.tl (.tl .hd)))) (c6 _ (.tl .hd)) c5 lA lA ?_
 intro e4 c4 b8
 obtain ⟨a7, a8, rfl, e5, e6⟩ := OwnS.shape b8
 refine TL.del (.tl (.tl .hd)) ?_
 rotate_left
 refine R.ld isAgg45 rfl rfl .hd rfl ?_
 refine eA ?_
 refine Plan.s2 3 12 [4, 12, 13, 14, 15, 16, 17] [3, 4, 13, 14, 15, 16, 17] kA kA kA rfl rfl ?_ ?_
 refine R.bs rfl (k_4 underlying44 sizeOf39 zeroValue39 rfl rfl) ?_
 intro e7
 have d2 := lit1 (E := (intE .u64)) (e := 39) (H := c9) (b := e7) (y := a5) (a := [.int .u64 a5]) rfl
 refine eA ?_
 refine Plan.s2 4 12 [12, 13, 14, 15, 16, 17] [4, 13, 14, 15, 16, 17] kA kA kA rfl rfl ?_ ?_
 obtain ⟨e3, c5, c6⟩ := Src.ownA d2
 refine R.app (E := (intE .u64)) (e := 39) (xs := a3) (ys := [a5]) k_2b rfl rfl rfl c0 (.tl (.tl (.tl .hd))) (c6 _ .hd) c5 lA lA ?_
 intro e4 c4 b8
 obtain ⟨a7, a8, rfl, e5, e6⟩ := OwnS.shape b8
 refine TL.del (.tl .hd) ?_
 refine eA ?_
 refine vP 14 [12, 13, 15, 16, 17] rfl underlying47 rfl sizeOf44 ?_
 refine Plan.s1 12 [13, 15, 16, 17] kA kA rfl ?_
 refine R.bs rfl (k_4 underlying45 sizeOf64 zeroValue64 rfl rfl) ?_
 intro d3
 have c7 := lit1 (E := (slE (intE .u64))) (e := 64) (H := c9) (b := d3) (y := a6) (a := [.slice d6 a6.length d7]) ⟨_, rfl, d4⟩
 refine eA ?_
 rotate_left
 refine R.bs rfl (k_4 underlying45 sizeOf64 zeroValue64 rfl rfl) ?_
 intro d3
 have c7 := lit1 (E := (slE (intE .u64))) (e := 64) (H := c9) (b := d3) (y := a6) (a := [.slice d6 a6.length d7]) ⟨_, rfl, d4⟩
 refine eA ?_
 refine Plan.s1 4 [13, 14, 15, 16, 17] kA kA rfl ?_
 obtain ⟨e3, c5, c6⟩ := Src.ownA d2
 refine R.app (E := (intE .u64)) (e := 39) (xs := a3) (ys := [a5]) k_2b rfl rfl rfl c0 (.tl (.tl (.tl (.tl .hd)))) (c6 _ (.tl .hd)) c5 lA lA ?_
 intro e4 c4 b8
 obtain ⟨a7, a8, rfl, e5, e6⟩ := OwnS.shape b8
 refine TL.del (.tl (.tl .hd)) ?_
 rotate_left
 refine R.bs rfl (k_4 underlying45 sizeOf64 zeroValue64 rfl rfl) ?_
 intro d3
 have c7 := lit1 (E := (slE (intE .u64))) (e := 64) (H := c9) (b := d3) (y := a6) (a := [.slice d6 a6.length d7]) ⟨_, rfl, d4⟩
 refine eA ?_
 refine Plan.s1 3 [4, 13, 14, 15, 16, 17] kA kA rfl ?_
 refine R.bs rfl (k_4 underlying44 sizeOf39 zeroValue39 rfl rfl) ?_
 intro e7
 have d2 := lit1 (E := (intE .u64)) (e := 39) (H := c9) (b := e7) (y := a5) (a := [.int .u64 a5]) rfl
 refine eA ?_
 refine Plan.s1 4 [13, 14, 15, 16, 17] kA kA rfl ?_
 obtain ⟨e3, c5, c6⟩ := Src.ownA d2
 refine R.app (E := (intE .u64)) (e := 39) (xs := a3) (ys := [a5]) k_2b rfl rfl rfl c0 (.tl (.tl (.tl (.tl .hd)))) (c6 _ .hd) c5 lA lA ?_
 intro e4 c4 b8
 obtain ⟨a7, a8, rfl, e5, e6⟩ := OwnS.shape b8
 refine TL.del (.tl .hd) ?_
 rotate_left
 refine R.bs rfl (k_4 underlying45 sizeOf64 zeroValue64 rfl rfl) ?_
 intro d3
 have c7 := lit1 (E := (slE (intE .u64))) (e := 64) (H := c9) (b := d3) (y := a6) (a := [.slice d6 a6.length d7]) ⟨_, rfl, d4⟩
 refine eA ?_
 refine Plan.s2 3 6 [4, 6, 13, 14, 15, 16, 17] [3, 4, 13, 14, 15, 16, 17] kA kA kA rfl rfl ?_ ?_
 refine R.bs rfl (k_4 underlying44 sizeOf39 zeroValue39 rfl rfl) ?_
 intro e7
 have d2 := lit1 (E := (intE .u64)) (e := 39) (H := c9) (b := e7) (y := a5) (a := [.int .u64 a5]) rfl
 refine eA ?_
 refine Plan.s2 4 6 [6, 13, 14, 15, 16, 17] [4, 13, 14, 15, 16, 17] kA kA kA rfl rfl ?_ ?_
 obtain ⟨e3, c5, c6⟩ := Src.ownA d2
 refine R.app (E := (intE .u64)) (e := 39) (xs := a3) (ys := [a5]) k_2b rfl rfl rfl c0 (.tl (.tl (.tl (.tl .hd)))) (c6 _ .hd) c5 lA lA ?_
 intro e4 c4 b8
 obtain ⟨a7, a8, rfl, e5, e6⟩ := OwnS.shape b8
 refine TL.del (.tl .hd) ?_
 refine eA ?_
 refine Plan.s1 6 [13, 14, 15, 16, 17] kA kA rfl ?_
 refine R.ld isAgg45 rfl rfl (.tl (.tl .hd)) rfl ?_
 rotate_left
 refine R.ld isAgg45 rfl rfl (.tl (.tl .hd)) rfl ?_
 refine eA ?_
 refine Plan.s1 4 [13, 14, 15, 16, 17] kA kA rfl ?_
 obtain ⟨e3, c5, c6⟩ := Src.ownA d2
 refine R.app (E := (intE .u64)) (e := 39) (xs := a3) (ys := [a5]) k_2b rfl rfl rfl c0 (.tl (.tl (.tl (.tl .hd)))) (c6 _ .hd) c5 lA lA ?_
 intro e4 c4 b8
 obtain ⟨a7, a8, rfl, e5, e6⟩ := OwnS.shape b8
 refine TL.del (.tl .hd) ?_
 rotate_left
 refine R.ld isAgg45 rfl rfl (.tl .hd) rfl ?_
 refine eA ?_
 refine Plan.s1 3 [4, 13, 14, 15, 16, 17] kA kA rfl ?_
 refine R.bs rfl (k_4 underlying44 sizeOf39 zeroValue39 rfl rfl) ?_
 intro e7
 have d2 := lit1 (E := (intE .u64)) (e := 39) (H := c9) (b := e7) (y := a5) (a := [.int .u64 a5]) rfl
 refine eA ?_
 refine Plan.s1 4 [13, 14, 15, 16, 17] kA kA rfl ?_
 obtain ⟨e3, c5, c6⟩ := Src.ownA d2
 refine R.app (E := (intE .u64)) (e := 39) (xs := a3) (ys := [a5]) k_2b rfl rfl rfl c0 (.tl (.tl (.tl (.tl .hd)))) (c6 _ .hd) c5 lA lA ?_
 intro e4 c4 b8
 obtain ⟨a7, a8, rfl, e5, e6⟩ := OwnS.shape b8
 refine TL.del (.tl .hd) ?_
 rotate_left
 refine R.bs rfl (k_4 underlying44 sizeOf39 zeroValue39 rfl rfl) ?_
 intro e7
 have d2 := lit1 (E := (intE .u64)) (e := 39) (H := c9) (b := e7) (y := a5) (a := [.int .u64 a5]) rfl
 refine eA ?_
 refine Plan.s3 1 6 12 [4, 6, 12, 13, 14, 15, 16, 17] [1, 4, 12, 13, 14, 15, 16, 17] [1, 4, 6, 13, 14, 15, 16, 17] kA kA kA kA rfl rfl rfl ?_ ?_ ?_
 refine R.ld isAgg44 rfl rfl (.tl .hd) rfl ?_
 refine eA ?_
 refine Plan.s3 4 6 12 [6, 12, 13, 14, 15, 16, 17] [4, 12, 13, 14, 15, 16, 17] [4, 6, 13, 14, 15, 16, 17] kA kA kA kA rfl rfl rfl ?_ ?_ ?_
 obtain ⟨e3, c5, c6⟩ := Src.ownA d2
 refine R.app (E := (intE .u64)) (e := 39) (xs := a3) (ys := [a5]) k_2b rfl rfl rfl c0 (.tl (.tl (.tl .hd))) (c6 _ .hd) c5 lA lA ?_
 intro e4 c4 b8
 obtain ⟨a7, a8, rfl, e5, e6⟩ := OwnS.shape b8
 refine TL.del (.tl .hd) ?_
 refine eA ?_
 refine Plan.s2 6 12 [12, 13, 14, 15, 16, 17] [6, 13, 14, 15, 16, 17] kA kA kA rfl rfl ?_ ?_
 refine R.ld isAgg45 rfl rfl (.tl .hd) rfl ?_
 refine eA ?_
 refine vP 14 [12, 13, 15, 16, 17] rfl underlying47 rfl sizeOf44 ?_
 refine Plan.s1 12 [13, 15, 16, 17] kA kA rfl ?_
 refine R.bs rfl (k_4 underlying45 sizeOf64 zeroValue64 rfl rfl) ?_
 intro d3
 have c7 := lit1 (E := (slE (intE .u64))) (e := 64) (H := c9) (b := d3) (y := a6) (a := [.slice d6 a6.length d7]) ⟨_, rfl, d4⟩
 refine eA ?_
 rotate_left
 refine R.bs rfl (k_4 underlying45 sizeOf64 zeroValue64 rfl rfl) ?_
 intro d3
 have c7 := lit1 (E := (slE (intE .u64))) (e := 64) (H := c9) (b := d3) (y := a6) (a := [.slice d6 a6.length d7]) ⟨_, rfl, d4⟩
 refine eA ?_
 refine Plan.s1 6 [13, 14, 15, 16, 17] kA kA rfl ?_
 refine R.ld isAgg45 rfl rfl (.tl (.tl .hd)) rfl ?_
 refine eA ?_
 refine vP 14 [13, 15, 16, 17] rfl underlying47 rfl sizeOf44 ?_
 rotate_left
 refine R.ld isAgg45 rfl rfl (.tl .hd) rfl ?_
 refine eA ?_
 refine Plan.s2 4 12 [12, 13, 14, 15, 16, 17] [4, 13, 14, 15, 16, 17] kA kA kA rfl rfl ?_ ?_
 obtain ⟨e3, c5, c6⟩ := Src.ownA d2
 refine R.app (E := (intE .u64)) (e := 39) (xs := a3) (ys := [a5]) k_2b rfl rfl rfl c0 (.tl (.tl (.tl .hd))) (c6 _ .hd) c5 lA lA ?_
 intro e4 c4 b8
 obtain ⟨a7, a8, rfl, e5, e6⟩ := OwnS.shape b8
 refine TL.del (.tl .hd) ?_
 refine eA ?_
 refine vP 14 [12, 13, 15, 16, 17] rfl underlying47 rfl sizeOf44 ?_
 refine Plan.s1 12 [13, 15, 16, 17] kA kA rfl ?_
 refine R.bs rfl (k_4 underlying45 sizeOf64 zeroValue64 rfl rfl) ?_
 intro d3
 have c7 := lit1 (E := (slE (intE .u64))) (e := 64) (H := c9) (b := d3) (y := a6) (a := [.slice d6 a6.length d7]) ⟨_, rfl, d4⟩
 refine eA ?_
 rotate_left
 refine R.bs rfl (k_4 underlying45 sizeOf64 zeroValue64 rfl rfl) ?_
 intro d3
 have c7 := lit1 (E := (slE (intE .u64))) (e := 64) (H := c9) (b := d3) (y := a6) (a := [.slice d6 a6.length d7]) ⟨_, rfl, d4⟩
 refine eA ?_
 refine Plan.s1 4 [13, 14, 15, 16, 17] kA kA rfl ?_
 obtain ⟨e3, c5, c6⟩ := Src.ownA d2
 refine R.app (E := (intE .u64)) (e := 39) (xs := a3) (ys := [a5]) k_2b rfl rfl rfl c0 (.tl (.tl (.tl (.tl .hd)))) (c6 _ (.tl .hd)) c5 lA lA ?_
 intro e4 c4 b8
 obtain ⟨a7, a8, rfl, e5, e6⟩ := OwnS.shape b8
 refine TL.del (.tl (.tl .hd)) ?_
 rotate_left
 refine R.bs rfl (k_4 underlying45 sizeOf64 zeroValue64 rfl rfl) ?_
 intro d3
 have c7 := lit1 (E := (slE (intE .u64))) (e := 64) (H := c9) (b := d3) (y := a6) (a := [.slice d6 a6.length d7]) ⟨_, rfl, d4⟩
 refine eA ?_
 refine Plan.s2 4 6 [6, 13, 14, 15, 16, 17] [4, 13, 14, 15, 16, 17] kA kA kA rfl rfl ?_ ?_
 obtain ⟨e3, c5, c6⟩ := Src.ownA d2
 refine R.app (E := (intE .u64)) (e := 39) (xs := a3) (ys := [a5]) k_2b rfl rfl rfl c0 (.tl (.tl (.tl (.tl .hd)))) (c6 _ (.tl .hd)) c5 lA lA ?_
 intro e4 c4 b8
 obtain ⟨a7, a8, rfl, e5, e6⟩ := OwnS.shape b8
 refine TL.del (.tl (.tl .hd)) ?_
 refine eA ?_
 refine Plan.s1 6 [13, 14, 15, 16, 17] kA kA rfl ?_
 refine R.ld isAgg45 rfl rfl (.tl (.tl .hd)) rfl ?_
 rotate_left
 refine R.ld isAgg45 rfl rfl (.tl (.tl .hd)) rfl ?_
 refine eA ?_
 refine Plan.s1 4 [13, 14, 15, 16, 17] kA kA rfl ?_
 obtain ⟨e3, c5, c6⟩ := Src.ownA d2
 refine R.app (E := (intE .u64)) (e := 39) (xs := a3) (ys := [a5]) k_2b rfl rfl rfl c0 (.tl (.tl (.tl (.tl .hd)))) (c6 _ (.tl .hd)) c5 lA lA ?_
 intro e4 c4 b8
 obtain ⟨a7, a8, rfl, e5, e6⟩ := OwnS.shape b8
 refine TL.del (.tl (.tl .hd)) ?_
 rotate_left
 refine R.ld isAgg45 rfl rfl (.tl .hd) rfl ?_
 refine eA ?_
 refine Plan.s2 1 12 [4, 12, 13, 14, 15, 16, 17] [1, 4, 13, 14, 15, 16, 17] kA kA kA rfl rfl ?_ ?_
 refine R.ld isAgg44 rfl rfl (.tl .hd) rfl ?_
 refine eA ?_
 refine Plan.s2 4 12 [12, 13, 14, 15, 16, 17] [4, 13, 14, 15, 16, 17] kA kA kA rfl rfl ?_ ?_
 obtain ⟨e3, c5, c6⟩ := Src.ownA d2
 refine R.app (E := (intE .u64)) (e := 39) (xs := a3) (ys := [a5]) k_2b rfl rfl rfl c0 (.tl (.tl (.tl .hd))) (c6 _ .hd) c5 lA lA ?_
 intro e4 c4 b8
 obtain ⟨a7, a8, rfl, e5, e6⟩ := OwnS.shape b8
 refine TL.del (.tl .hd) ?_
 refine eA ?_
 refine vP 14 [12, 13, 15, 16, 17] rfl underlying47 rfl sizeOf44 ?_
 refine Plan.s1 12 [13, 15, 16, 17] kA kA rfl ?_
 refine R.bs rfl (k_4 underlying45 sizeOf64 zeroValue64 rfl rfl) ?_
 intro d3
 have c7 := lit1 (E := (slE (intE .u64))) (e := 64) (H := c9) (b := d3) (y := a6) (a := [.slice d6 a6.length d7]) ⟨_, rfl, d4⟩
 refine eA ?_
 rotate_left
 refine R.bs rfl (k_4 underlying45 sizeOf64 zeroValue64 rfl rfl) ?_
 intro d3
 have c7 := lit1 (E := (slE (intE .u64))) (e := 64) (H := c9) (b := d3) (y := a6) (a := [.slice d6 a6.length d7]) ⟨_, rfl, d4⟩
 refine eA ?_
 refine Plan.s1 4 [13, 14, 15, 16, 17] kA kA rfl ?_
 obtain ⟨e3, c5, c6⟩ := Src.ownA d2
 refine R.app (E := (intE .u64)) (e := 39) (xs := a3) (ys := [a5]) k_2b rfl rfl rfl c0 (.tl (.tl (.tl (.tl .hd)))) (c6 _ (.tl .hd)) c5 lA lA ?_
 intro e4 c4 b8
 obtain ⟨a7, a8, rfl, e5, e6⟩ := OwnS.shape b8
 refine TL.del (.tl (.tl .hd)) ?_
 rotate_left
 refine R.bs rfl (k_4 underlying45 sizeOf64 zeroValue64 rfl rfl) ?_
 intro d3
 have c7 := lit1 (E := (slE (intE .u64))) (e := 64) (H := c9) (b := d3) (y := a6) (a := [.slice d6 a6.length d7]) ⟨_, rfl, d4⟩
 refine eA ?_
 refine Plan.s1 1 [4, 13, 14, 15, 16, 17] kA kA rfl ?_
 refine R.ld isAgg44 rfl rfl (.tl (.tl .hd)) rfl ?_
 refine eA ?_
 refine Plan.s1 4 [13, 14, 15, 16, 17] kA kA rfl ?_
 obtain ⟨e3, c5, c6⟩ := Src.ownA d2
 refine R.app (E := (intE .u64)) (e := 39) (xs := a3) (ys := [a5]) k_2b rfl rfl rfl c0 (.tl (.tl (.tl (.tl .hd)))) (c6 _ (.tl .hd)) c5 lA lA ?_
 intro e4 c4 b8
 obtain ⟨a7, a8, rfl, e5, e6⟩ := OwnS.shape b8
 refine TL.del (.tl (.tl .hd)) ?_
 rotate_left
 refine R.bs rfl (k_4 underlying45 sizeOf64 zeroValue64 rfl rfl) ?_
 intro d3
 have c7 := lit1 (E := (slE (intE .u64))) (e := 64) (H := c9) (b := d3) (y := a6) (a := [.slice d6 a6.length d7]) ⟨_, rfl, d4⟩
 refine eA ?_
 refine Plan.s2 1 6 [4, 6, 13, 14, 15, 16, 17] [1, 4, 13, 14, 15, 16, 17] kA kA kA rfl rfl ?_ ?_
 refine R.ld isAgg44 rfl rfl (.tl (.tl .hd)) rfl ?_
 refine eA ?_
 refine Plan.s2 4 6 [6, 13, 14, 15, 16, 17] [4, 13, 14, 15, 16, 17] kA kA kA rfl rfl ?_ ?_
 obtain ⟨e3, c5, c6⟩ := Src.ownA d2
 refine R.app (E := (intE .u64)) (e := 39) (xs := a3) (ys := [a5]) k_2b rfl rfl rfl c0 (.tl (.tl (.tl (.tl .hd)))) (c6 _ (.tl .hd)) c5 lA lA ?_
 intro e4 c4 b8
 obtain ⟨a7, a8, rfl, e5, e6⟩ := OwnS.shape b8
 refine TL.del (.tl (.tl .hd)) ?_
 refine eA ?_
 refine Plan.s1 6 [13, 14, 15, 16, 17] kA kA rfl ?_
 refine R.ld isAgg45 rfl rfl (.tl (.tl .hd)) rfl ?_
 rotate_left
 refine R.ld isAgg45 rfl rfl (.tl (.tl .hd)) rfl ?_
 refine eA ?_
 refine Plan.s1 4 [13, 14, 15, 16, 17] kA kA rfl ?_
 obtain ⟨e3, c5, c6⟩ := Src.ownA d2
 refine R.app (E := (intE .u64)) (e := 39) (xs := a3) (ys := [a5]) k_2b rfl rfl rfl c0 (.tl (.tl (.tl (.tl .hd)))) (c6 _ (.tl .hd)) c5 lA lA ?_
 intro e4 c4 b8
 obtain ⟨a7, a8, rfl, e5, e6⟩ := OwnS.shape b8
 refine TL.del (.tl (.tl .hd)) ?_
 rotate_left
 refine R.ld isAgg45 rfl rfl (.tl (.tl .hd)) rfl ?_
 refine eA ?_
 refine Plan.s1 1 [4, 13, 14, 15, 16, 17] kA kA rfl ?_
 refine R.ld isAgg44 rfl rfl (.tl (.tl .hd)) rfl ?_
 refine eA ?_
 refine Plan.s1 4 [13, 14, 15, 16, 17] kA kA rfl ?_
 obtain ⟨e3, c5, c6⟩ := Src.ownA d2
 refine R.app (E := (intE .u64)) (e := 39) (xs := a3) (ys := [a5]) k_2b rfl rfl rfl c0 (.tl (.tl (.tl (.tl .hd)))) (c6 _ (.tl .hd)) c5 lA lA ?_
 intro e4 c4 b8
 obtain ⟨a7, a8, rfl, e5, e6⟩ := OwnS.shape b8
 refine TL.del (.tl (.tl .hd)) ?_
 rotate_left
 refine R.ld isAgg45 rfl rfl .hd rfl ?_
 refine eA ?_
 refine Plan.s3 1 3 12 [3, 4, 12, 13, 14, 15, 16, 17] [1, 4, 12, 13, 14, 15, 16, 17] [1, 3, 4, 13, 14, 15, 16, 17] kA kA kA kA rfl rfl rfl ?_ ?_ ?_
 refine R.ld isAgg44 rfl rfl .hd rfl ?_
 refine eA ?_
 refine Plan.s2 3 12 [4, 12, 13, 14, 15, 16, 17] [3, 4, 13, 14, 15, 16, 17] kA kA kA rfl rfl ?_ ?_
 refine R.bs rfl (k_4 underlying44 sizeOf39 zeroValue39 rfl rfl) ?_
 intro e7
 have d2 := lit1 (E := (intE .u64)) (e := 39) (H := c9) (b := e7) (y := a5) (a := [.int .u64 a5]) rfl
 refine eA ?_
 refine Plan.s2 4 12 [12, 13, 14, 15, 16, 17] [4, 13, 14, 15, 16, 17] kA kA kA rfl rfl ?_ ?_
 obtain ⟨e3, c5, c6⟩ := Src.ownA d2
 refine R.app (E := (intE .u64)) (e := 39) (xs := a3) (ys := [a5]) k_2b rfl rfl rfl c0 (.tl (.tl (.tl .hd))) (c6 _ .hd) c5 lA lA ?_
 intro e4 c4 b8
 obtain ⟨a7, a8, rfl, e5, e6⟩ := OwnS.shape b8
 refine TL.del (.tl .hd) ?_
 refine eA ?_
 refine vP 14 [12, 13, 15, 16, 17] rfl underlying47 rfl sizeOf44 ?_
 refine Plan.s1 12 [13, 15, 16, 17] kA kA rfl ?_
 refine R.bs rfl (k_4 underlying45 sizeOf64 zeroValue64 rfl rfl) ?_
 intro d3
 have c7 := lit1 (E := (slE (intE .u64))) (e := 64) (H := c9) (b := d3) (y := a6) (a := [.slice d6 a6.length d7]) ⟨_, rfl, d4⟩
 refine eA ?_
 rotate_left
 refine R.bs rfl (k_4 underlying45 sizeOf64 zeroValue64 rfl rfl) ?_
 intro d3
 have c7 := lit1 (E := (slE (intE .u64))) (e := 64) (H := c9) (b := d3) (y := a6) (a := [.slice d6 a6.length d7]) ⟨_, rfl, d4⟩
 refine eA ?_
 refine Plan.s1 4 [13, 14, 15, 16, 17] kA kA rfl ?_
 obtain ⟨e3, c5, c6⟩ := Src.ownA d2
 refine R.app (E := (intE .u64)) (e := 39) (xs := a3) (ys := [a5]) k_2b rfl rfl rfl c0 (.tl (.tl (.tl (.tl .hd)))) (c6 _ (.tl .hd)) c5 lA lA ?_
 intro e4 c4 b8
 obtain ⟨a7, a8, rfl, e5, e6⟩ := OwnS.shape b8
 refine TL.del (.tl (.tl .hd)) ?_
 rotate_left
 refine R.bs rfl (k_4 underlying45 sizeOf64 zeroValue64 rfl rfl) ?_
 intro d3
 have c7 := lit1 (E := (slE (intE .u64))) (e := 64) (H := c9) (b := d3) (y := a6) (a := [.slice d6 a6.length d7]) ⟨_, rfl, d4⟩
 refine eA ?_
 refine Plan.s1 3 [4, 13, 14, 15, 16, 17] kA kA rfl ?_
 refine R.bs rfl (k_4 underlying44 sizeOf39 zeroValue39 rfl rfl) ?_
 intro e7
 have d2 := lit1 (E := (intE .u64)) (e := 39) (H := c9) (b := e7) (y := a5) (a := [.int .u64 a5]) rfl
 refine eA ?_
 refine Plan.s1 4 [13, 14, 15, 16, 17] kA kA rfl ?_
 obtain ⟨e3, c5, c6⟩ := Src.ownA d2
 refine R.app (E := (intE .u64)) (e := 39) (xs := a3) (ys := [a5]) k_2b rfl rfl rfl c0 (.tl (.tl (.tl (.tl .hd)))) (c6 _ .hd) c5 lA lA ?_
 intro e4 c4 b8
 obtain ⟨a7, a8, rfl, e5, e6⟩ := OwnS.shape b8
 refine TL.del (.tl .hd) ?_
 rotate_left
 refine R.bs rfl (k_4 underlying44 sizeOf39 zeroValue39 rfl rfl) ?_
 intro e7
 have d2 := lit1 (E := (intE .u64)) (e := 39) (H := c9) (b := e7) (y := a5) (a := [.int .u64 a5]) rfl
 refine eA ?_
 refine Plan.s2 1 12 [4, 12, 13, 14, 15, 16, 17] [1, 4, 13, 14, 15, 16, 17] kA kA kA rfl rfl ?_ ?_
 refine R.ld isAgg44 rfl rfl (.tl .hd) rfl ?_
 refine eA ?_
 refine Plan.s2 4 12 [12, 13, 14, 15, 16, 17] [4, 13, 14, 15, 16, 17] kA kA kA rfl rfl ?_ ?_
 obtain ⟨e3, c5, c6⟩ := Src.ownA d2
 refine R.app (E := (intE .u64)) (e := 39) (xs := a3) (ys := [a5]) k_2b rfl rfl rfl c0 (.tl (.tl (.tl .hd))) (c6 _ .hd) c5 lA lA ?_
 intro e4 c4 b8
 obtain ⟨a7, a8, rfl, e5, e6⟩ := OwnS.shape b8
 refine TL.del (.tl .hd) ?_
 refine eA ?_
 refine vP 14 [12, 13, 15, 16, 17] rfl underlying47 rfl sizeOf44 ?_
 refine Plan.s1 12 [13, 15, 16, 17] kA kA rfl ?_
 refine R.bs rfl (k_4 underlying45 sizeOf64 zeroValue64 rfl rfl) ?_
 intro d3
 have c7 := lit1 (E := (slE (intE .u64))) (e := 64) (H := c9) (b := d3) (y := a6) (a := [.slice d6 a6.length d7]) ⟨_, rfl, d4⟩
 refine eA ?_
 rotate_left
 refine R.bs rfl (k_4 underlying45 sizeOf64 zeroValue64 rfl rfl) ?_
 intro d3
 have c7 := lit1 (E := (slE (intE .u64))) (e := 64) (H := c9) (b := d3) (y := a6) (a := [.slice d6 a6.length d7]) ⟨_, rfl, d4⟩
 refine eA ?_
 refine Plan.s1 4 [13, 14, 15, 16, 17] kA kA rfl ?_
 obtain ⟨e3, c5, c6⟩ := Src.ownA d2
 refine R.app (E := (intE .u64)) (e := 39) (xs := a3) (ys := [a5]) k_2b rfl rfl rfl c0 (.tl (.tl (.tl (.tl .hd)))) (c6 _ (.tl .hd)) c5 lA lA ?_
 intro e4 c4 b8
 obtain ⟨a7, a8, rfl, e5, e6⟩ := OwnS.shape b8
 refine TL.del (.tl (.tl .hd)) ?_
 rotate_left
 refine R.bs rfl (k_4 underlying45 sizeOf64 zeroValue64 rfl rfl) ?_
 intro d3
 have c7 := lit1 (E := (slE (intE .u64))) (e := 64) (H := c9) (b := d3) (y := a6) (a := [.slice d6 a6.length d7]) ⟨_, rfl, d4⟩
 refine eA ?_
 refine Plan.s1 1 [4, 13, 14, 15, 16, 17] kA kA rfl ?_
 refine R.ld isAgg44 rfl rfl (.tl (.tl .hd)) rfl ?_
 refine eA ?_
 refine Plan.s1 4 [13, 14, 15, 16, 17] kA kA rfl ?_
 obtain ⟨e3, c5, c6⟩ := Src.ownA d2
 refine R.app (E := (intE .u64)) (e := 39) (xs := a3) (ys := [a5]) k_2b rfl rfl rfl c0 (.tl (.tl (.tl (.tl .hd)))) (c6 _ (.tl .hd)) c5 lA lA ?_
 intro e4 c4 b8
 obtain ⟨a7, a8, rfl, e5, e6⟩ := OwnS.shape b8
 refine TL.del (.tl (.tl .hd)) ?_
 rotate_left
 refine R.bs rfl (k_4 underlying45 sizeOf64 zeroValue64 rfl rfl) ?_
 intro d3
 have c7 := lit1 (E := (slE (intE .u64))) (e := 64) (H := c9) (b := d3) (y := a6) (a := [.slice d6 a6.length d7]) ⟨_, rfl, d4⟩
 refine eA ?_
 refine Plan.s2 1 3 [3, 4, 13, 14, 15, 16, 17] [1, 4, 13, 14, 15, 16, 17] kA kA kA rfl rfl ?_ ?_
 refine R.ld isAgg44 rfl rfl (.tl .hd) rfl ?_
 refine eA ?_
 refine Plan.s1 3 [4, 13, 14, 15, 16, 17] kA kA rfl ?_
 refine R.bs rfl (k_4 underlying44 sizeOf39 zeroValue39 rfl rfl) ?_
 intro e7
 have d2 := lit1 (E := (intE .u64)) (e := 39) (H := c9) (b := e7) (y := a5) (a := [.int .u64 a5]) rfl
 refine eA ?_
 refine Plan.s1 4 [13, 14, 15, 16, 17] kA kA rfl ?_
 obtain ⟨e3, c5, c6⟩ := Src.ownA d2
 refine R.app (E := (intE .u64)) (e := 39) (xs := a3) (ys := [a5]) k_2b rfl rfl rfl c0 (.tl (.tl (.tl (.tl .hd)))) (c6 _ .hd) c5 lA lA ?_
 intro e4 c4 b8
 obtain ⟨a7, a8, rfl, e5, e6⟩ := OwnS.shape b8
 refine TL.del (.tl .hd) ?_
 rotate_left
 refine R.bs rfl (k_4 underlying44 sizeOf39 zeroValue39 rfl rfl) ?_
 intro e7
 have d2 := lit1 (E := (intE .u64)) (e := 39) (H := c9) (b := e7) (y := a5) (a := [.int .u64 a5]) rfl
 refine eA ?_
 refine Plan.s1 1 [4, 13, 14, 15, 16, 17] kA kA rfl ?_
 refine R.ld isAgg44 rfl rfl (.tl (.tl .hd)) rfl ?_
 refine eA ?_
 refine Plan.s1 4 [13, 14, 15, 16, 17] kA kA rfl ?_
 obtain ⟨e3, c5, c6⟩ := Src.ownA d2
 refine R.app (E := (intE .u64)) (e := 39) (xs := a3) (ys := [a5]) k_2b rfl rfl rfl c0 (.tl (.tl (.tl (.tl .hd)))) (c6 _ .hd) c5 lA lA ?_
 intro e4 c4 b8
 obtain ⟨a7, a8, rfl, e5, e6⟩ := OwnS.shape b8
 refine TL.del (.tl .hd) ?_
 rotate_left
 refine R.bs rfl (k_4 underlying45 sizeOf64 zeroValue64 rfl rfl) ?_
 intro d3
 have c7 := lit1 (E := (slE (intE .u64))) (e := 64) (H := c9) (b := d3) (y := a6) (a := [.slice d6 a6.length d7]) ⟨_, rfl, d4⟩
 refine eA ?_
 refine Plan.s3 1 3 6 [3, 4, 6, 13, 14, 15, 16, 17] [1, 4, 6, 13, 14, 15, 16, 17] [1, 3, 4, 13, 14, 15, 16, 17] kA kA kA kA rfl rfl rfl ?_ ?_ ?_
 refine R.ld isAgg44 rfl rfl (.tl .hd) rfl ?_
 refine eA ?_
 refine Plan.s2 3 6 [4, 6, 13, 14, 15, 16, 17] [3, 4, 13, 14, 15, 16, 17] kA kA kA rfl rfl ?_ ?_
 refine R.bs rfl (k_4 underlying44 sizeOf39 zeroValue39 rfl rfl) ?_
 intro e7
 have d2 := lit1 (E := (intE .u64)) (e := 39) (H := c9) (b := e7) (y := a5) (a := [.int .u64 a5]) rfl
 refine eA ?_
 refine Plan.s2 4 6 [6, 13, 14, 15, 16, 17] [4, 13, 14, 15, 16, 17] kA kA kA rfl rfl ?_ ?_
 obtain ⟨e3, c5, c6⟩ := Src.ownA d2
 refine R.app (E := (intE .u64)) (e := 39) (xs := a3) (ys := [a5]) k_2b rfl rfl rfl c0 (.tl (.tl (.tl (.tl .hd)))) (c6 _ .hd) c5 lA lA ?_
 intro e4 c4 b8
 obtain ⟨a7, a8, rfl, e5, e6⟩ := OwnS.shape b8
 refine TL.del (.tl .hd) ?_
 refine eA ?_
 refine Plan.s1 6 [13, 14, 15, 16, 17] kA kA rfl ?_
 refine R.ld isAgg45 rfl rfl (.tl (.tl .hd)) rfl ?_
 rotate_left
 refine R.ld isAgg45 rfl rfl (.tl (.tl .hd)) rfl ?_
 refine eA ?_
 refine Plan.s1 4 [13, 14, 15, 16, 17] kA kA rfl ?_
 obtain ⟨e3, c5, c6⟩ := Src.ownA d2
 refine R.app (E := (intE .u64)) (e := 39) (xs := a3) (ys := [a5]) k_2b rfl rfl rfl c0 (.tl (.tl (.tl (.tl .hd)))) (c6 _ .hd) c5 lA lA ?_
 intro e4 c4 b8
 obtain ⟨a7, a8, rfl, e5, e6⟩ := OwnS.shape b8
 refine TL.del (.tl .hd) ?_
 rotate_left
 refine R.ld isAgg45 rfl rfl (.tl .hd) rfl ?_
 refine eA ?_
 refine Plan.s1 3 [4, 13, 14, 15, 16, 17] kA kA rfl ?_
 refine R.bs rfl (k_4 underlying44 sizeOf39 zeroValue39 rfl rfl) ?_
 intro e7
 have d2 := lit1 (E := (intE .u64)) (e := 39) (H := c9) (b := e7) (y := a5) (a := [.int .u64 a5]) rfl
 refine eA ?_
 refine Plan.s1 4 [13, 14, 15, 16, 17] kA kA rfl ?_
 obtain ⟨e3, c5, c6⟩ := Src.ownA d2
 refine R.app (E := (intE .u64)) (e := 39) (xs := a3) (ys := [a5]) k_2b rfl rfl rfl c0 (.tl (.tl (.tl (.tl .hd)))) (c6 _ .hd) c5 lA lA ?_
 intro e4 c4 b8
 obtain ⟨a7, a8, rfl, e5, e6⟩ := OwnS.shape b8
 refine TL.del (.tl .hd) ?_
 rotate_left
 refine R.bs rfl (k_4 underlying44 sizeOf39 zeroValue39 rfl rfl) ?_
 intro e7
 have d2 := lit1 (E := (intE .u64)) (e := 39) (H := c9) (b := e7) (y := a5) (a := [.int .u64 a5]) rfl
 refine eA ?_
 refine Plan.s2 1 6 [4, 6, 13, 14, 15, 16, 17] [1, 4, 13, 14, 15, 16, 17] kA kA kA rfl rfl ?_ ?_
 refine R.ld isAgg44 rfl rfl (.tl (.tl .hd)) rfl ?_
 refine eA ?_
 refine Plan.s2 4 6 [6, 13, 14, 15, 16, 17] [4, 13, 14, 15, 16, 17] kA kA kA rfl rfl ?_ ?_
 obtain ⟨e3, c5, c6⟩ := Src.ownA d2
 refine R.app (E := (intE .u64)) (e := 39) (xs := a3) (ys := [a5]) k_2b rfl rfl rfl c0 (.tl (.tl (.tl (.tl .hd)))) (c6 _ .hd) c5 lA lA ?_
 intro e4 c4 b8
 obtain ⟨a7, a8, rfl, e5, e6⟩ := OwnS.shape b8
 refine TL.del (.tl .hd) ?_
 refine eA ?_
 refine Plan.s1 6 [13, 14, 15, 16, 17] kA kA rfl ?_
 refine R.ld isAgg45 rfl rfl (.tl (.tl .hd)) rfl ?_
 rotate_left
 refine R.ld isAgg45 rfl rfl (.tl (.tl .hd)) rfl ?_
 refine eA ?_
 refine Plan.s1 4 [13, 14, 15, 16, 17] kA kA rfl ?_
 obtain ⟨e3, c5, c6⟩ := Src.ownA d2
 refine R.app (E := (intE .u64)) (e := 39) (xs := a3) (ys := [a5]) k_2b rfl rfl rfl c0 (.tl (.tl (.tl (.tl .hd)))) (c6 _ .hd) c5 lA lA ?_
 intro e4 c4 b8
 obtain ⟨a7, a8, rfl, e5, e6⟩ := OwnS.shape b8
 refine TL.del (.tl .hd) ?_
 rotate_left
 refine R.ld isAgg45 rfl rfl (.tl (.tl .hd)) rfl ?_
 refine eA ?_
 refine Plan.s1 1 [4, 13, 14, 15, 16, 17] kA kA rfl ?_
 refine R.ld isAgg44 rfl rfl (.tl (.tl .hd)) rfl ?_
 refine eA ?_
 refine Plan.s1 4 [13, 14, 15, 16, 17] kA kA rfl ?_
 obtain ⟨e3, c5, c6⟩ := Src.ownA d2
 refine R.app (E := (intE .u64)) (e := 39) (xs := a3) (ys := [a5]) k_2b rfl rfl rfl c0 (.tl (.tl (.tl (.tl .hd)))) (c6 _ .hd) c5 lA lA ?_
 intro e4 c4 b8
 obtain ⟨a7, a8, rfl, e5, e6⟩ := OwnS.shape b8
 refine TL.del (.tl .hd) ?_
 rotate_left
 refine R.ld isAgg45 rfl rfl (.tl .hd) rfl ?_
 refine eA ?_
 refine Plan.s2 1 3 [3, 4, 13, 14, 15, 16, 17] [1, 4, 13, 14, 15, 16, 17] kA kA kA rfl rfl ?_ ?_
 refine R.ld isAgg44 rfl rfl (.tl .hd) rfl ?_
 refine eA ?_
 refine Plan.s1 3 [4, 13, 14, 15, 16, 17] kA kA rfl ?_
 refine R.bs rfl (k_4 underlying44 sizeOf39 zeroValue39 rfl rfl) ?_
 intro e7
 have d2 := lit1 (E := (intE .u64)) (e := 39) (H := c9) (b := e7) (y := a5) (a := [.int .u64 a5]) rfl
 refine eA ?_
 refine Plan.s1 4 [13, 14, 15, 16, 17] kA kA rfl ?_
 obtain ⟨e3, c5, c6⟩ := Src.ownA d2
 refine R.app (E := (intE .u64)) (e := 39) (xs := a3) (ys := [a5]) k_2b rfl rfl rfl c0 (.tl (.tl (.tl (.tl .hd)))) (c6 _ .hd) c5 lA lA ?_
 intro e4 c4 b8
 obtain ⟨a7, a8, rfl, e5, e6⟩ := OwnS.shape b8
 refine TL.del (.tl .hd) ?_
 rotate_left
 refine R.bs rfl (k_4 underlying44 sizeOf39 zeroValue39 rfl rfl) ?_
 intro e7
 have d2 := lit1 (E := (intE .u64)) (e := 39) (H := c9) (b := e7) (y := a5) (a := [.int .u64 a5]) rfl
 refine eA ?_
 refine Plan.s1 1 [4, 13, 14, 15, 16, 17] kA kA rfl ?_
 refine R.ld isAgg44 rfl rfl (.tl (.tl .hd)) rfl ?_
 refine eA ?_
 refine Plan.s1 4 [13, 14, 15, 16, 17] kA kA rfl ?_
 obtain ⟨e3, c5, c6⟩ := Src.ownA d2
 refine R.app (E := (intE .u64)) (e := 39) (xs := a3) (ys := [a5]) k_2b rfl rfl rfl c0 (.tl (.tl (.tl (.tl .hd)))) (c6 _ .hd) c5 lA lA ?_
 intro e4 c4 b8
 obtain ⟨a7, a8, rfl, e5, e6⟩ := OwnS.shape b8
 refine TL.del (.tl .hd) ?_
 rotate_left
 refine T.set 22 (.bool false) (congrArg Value.bool d5) ?_
 refine T.skip (Post.blkN ?_)
 refine id (Post.thnN (T.region ?_))
 refine R.addI rfl rfl rfl oA ?_
 refine mA ?_
 refine nN ?_
 exact ⟨(b1 + 1, a4, sl f0 a3 f1, a3, e8, sl b6 a2 b7, a2, e9), c8, ⟨oA, (Has.cons .hd (Has.cons .hd (Has.cons .hd (Has.cons .hd Has.nil)))), c0, b9, bA, bA, (by rw [← d0, k_8 d1, k_6]; rw [if_f d5])⟩, by show a0.2.1.length - (b1 + 1) < a0.2.1.length - b1; omega, rfl, rfl, rfl, rfl, rfl, rfl, rfl, trivial⟩
 refine T.exit (Post.thnE (Post.thnE (Post.blkX ?_)))
 have hEl1 : k_6 a0 a1 a0.2.1 0 ((a0.1, [], [])) = (a4, a3, a2) := (d0.symm.trans (by rw [show b1 = a0.2.1.length by omega, List.drop_length, k_6]))
 refine id (Post.thnN (sR ?_))
 refine R.ldX (cs := [.int .i64 a4, sl f0 a3 f1, sl b6 a2 b7]) (l := [.int .i64 a4, sl f0 a3 f1, sl b6 a2 b7]) isAgg47 sizeOf47 rfl rfl .hd rfl rfl ?_
 refine stY (l := [.int .i64 a4, sl f0 a3 f1, sl b6 a2 b7]) (new := [.int .i64 a4, sl f0 a3 f1, sl b6 a2 b7]) (.tl .hd) sizeOf47 rfl rfl ?_
 refine nN (T.has (Has.cons (.tl (.tl .hd)) (Has.cons (.tl (.tl .hd)) (Has.cons (.tl .hd) Has.nil))) ?_)
 refine T.ret ?_
 have hM : k_9a a0 a1 = (a4, a3, a2) := by rw [k_9a, hEl1, LR.seq_go]
 exact finR1 (v := .agg #[.int .i64 a4, sl f0 a3 f1, sl b6 a2 b7]) [e8, e9] rfl (.cellA (cs := [.int .i64 a4, sl f0 a3 f1, sl b6 a2 b7]) (l := [.int .i64 a4, sl f0 a3 f1, sl b6 a2 b7]) isAgg47 sizeOf47 rfl (.tl (.tl .hd)) rfl rfl) (List.sublist_append_left ([e8, e9] : Own) _) ⟨sl f0 a3 f1, sl b6 a2 b7, e8, e9, by first | rw [hM] | rfl, rfl, by rw [hM]; exact c0, by rw [hM]; exact b9⟩
 all_goals first
  | (
   refine eA ?_
   refine vP 14 [13, 15, 16, 17] rfl underlying47 rfl sizeOf44 ?_
   refine Plan.s1 13 [15, 16, 17] kA kA rfl ?_
   obtain ⟨d9, c1, c2⟩ := Src.ownA c7
   refine R.app (E := (slE (intE .u64))) (e := 64) (xs := a2) (ys := [a6]) k_30 rfl rfl rfl b9 (.tl (.tl (.tl (.tl .hd)))) (c2 _ (.tl .hd)) c1 lA lA ?_
   intro e0 c3 b3
   obtain ⟨a9, b0, rfl, e1, e2⟩ := OwnS.shape b3
   refine TL.del (.tl (.tl .hd)) ?_
   refine eA ?_
   refine Plan.s1 15 [16, 17] kA kA rfl ?_
   refine stY (l := [sl a7 (a3 ++ [a5]) a8]) (new := [.int .i64 a4, sl a7 (a3 ++ [a5]) a8, sl b6 a2 b7]) (.tl (.tl .hd)) sizeOf44 rfl (cells1 rfl) ?_
   refine eB ?_
   refine vP 16 [17] rfl underlying47 rfl sizeOf45 ?_
   refine Plan.s1 17 [] kA kA rfl ?_
   refine stY (l := [sl a9 (a2 ++ [a6]) b0]) (new := [.int .i64 a4, sl a7 (a3 ++ [a5]) a8, sl a9 (a2 ++ [a6]) b0]) (.tl (.tl .hd)) sizeOf45 rfl (cells1 rfl) ?_
   refine eB ?_
   refine Plan.done (Post.blkN ?_)
   refine id (Post.thnN (T.region ?_))
   refine R.addI rfl rfl rfl oA ?_
   refine mA ?_
   refine nN ?_
   exact ⟨(b1 + 1, a4, sl a7 (a3 ++ [a5]) a8, (a3 ++ [a5]), c4, sl a9 (a2 ++ [a6]) b0, (a2 ++ [a6]), c3), c8, ⟨oA, (Has.cons (.tl (.tl .hd)) (Has.cons (.tl (.tl .hd)) (Has.cons (.tl .hd) (Has.cons .hd Has.nil)))), b8, b3, bA, bA, (by subst d8; rw [← d0, k_8 d1, k_6]; rw [if_t d5])⟩, by show a0.2.1.length - (b1 + 1) < a0.2.1.length - b1; omega, rfl, rfl, rfl, rfl, rfl, rfl, rfl, trivial⟩)
  | (
   refine Plan.s1 13 [15, 16, 17] kA kA rfl ?_
   obtain ⟨d9, c1, c2⟩ := Src.ownA c7
   refine R.app (E := (slE (intE .u64))) (e := 64) (xs := a2) (ys := [a6]) k_30 rfl rfl rfl b9 (.tl (.tl (.tl (.tl .hd)))) (c2 _ .hd) c1 lA lA ?_
   intro e0 c3 b3
   obtain ⟨a9, b0, rfl, e1, e2⟩ := OwnS.shape b3
   refine TL.del (.tl .hd) ?_
   refine eA ?_
   refine Plan.s1 15 [16, 17] kA kA rfl ?_
   refine stY (l := [sl a7 (a3 ++ [a5]) a8]) (new := [.int .i64 a4, sl a7 (a3 ++ [a5]) a8, sl b6 a2 b7]) (.tl (.tl .hd)) sizeOf44 rfl (cells1 rfl) ?_
   refine eB ?_
   refine vP 16 [17] rfl underlying47 rfl sizeOf45 ?_
   refine Plan.s1 17 [] kA kA rfl ?_
   refine stY (l := [sl a9 (a2 ++ [a6]) b0]) (new := [.int .i64 a4, sl a7 (a3 ++ [a5]) a8, sl a9 (a2 ++ [a6]) b0]) (.tl (.tl .hd)) sizeOf45 rfl (cells1 rfl) ?_
   refine eB ?_
   refine Plan.done (Post.blkN ?_)
   refine id (Post.thnN (T.region ?_))
   refine R.addI rfl rfl rfl oA ?_
   refine mA ?_
   refine nN ?_
   exact ⟨(b1 + 1, a4, sl a7 (a3 ++ [a5]) a8, (a3 ++ [a5]), c4, sl a9 (a2 ++ [a6]) b0, (a2 ++ [a6]), c3), c8, ⟨oA, (Has.cons (.tl (.tl .hd)) (Has.cons (.tl (.tl .hd)) (Has.cons (.tl .hd) (Has.cons .hd Has.nil)))), b8, b3, bA, bA, (by subst d8; rw [← d0, k_8 d1, k_6]; rw [if_t d5])⟩, by show a0.2.1.length - (b1 + 1) < a0.2.1.length - b1; omega, rfl, rfl, rfl, rfl, rfl, rfl, rfl, trivial⟩)
end Go.SX
namespace Go.SX
open Go Go.Proofs Go.Proofs.Tryz
theorem Tryz_tyR29 : TyE Tryz.prog 29 47 (rawE 3) 56 := TyE.mk' (z := .agg #[.int .i64 0, .slice none 0 0, .slice none 0 0]) underlying29 (by kernel_rfl) rfl (by decide)
theorem insS29_c (H : Heap) (b cap : Nat) (cs : Array Value) (raws : List (List Value)) (i : Nat) (vc : List Value) (bv : Nat) (hi : i ≤ raws.length) (hl : raws.length ≤ 400000) (h3 : raws.length ≤ cap) (h4 : cap ≤ maxLen) (h5 : cap * 3 ≤ cs.size) (h6 : ∀ i x, raws[i]? = some x → ∃ l, (rawE 3).R H l x ∧ ∀ j u, l[j]? = some u → cs[i * 3 + j]? = some u) (ho : OwnS (rawE 3) 47 H (.slice (some ⟨b, 0, none⟩) raws.length cap) raws [(b, .cells cs 47)]) (hvc : vc.length = 3) (h1 : ∀ u ∈ vc, u.oneCell' = true) : Fc Tryz.prog (fnv 169) [.slice (some ⟨b, 0, none⟩) raws.length cap, .int .i64 i, .slice (some ⟨bv, 0, none⟩) 1 1] H [[(b, .cells cs 47)], [(bv, .cells vc.toArray 47)]] (fun v' H' L' => ∃ c, L' = [c] ∧ OwnS (rawE 3) 47 H' v' (raws.take i ++ vc :: raws.drop i) c) := by
 refine Fc.of_body (N := 95) func169 rfl kA rfl rfl ?_
 intro w0
 have hp : 0 < 3 := by decide
 have hns : raws.length * 3 ≤ cs.size := Nat.le_trans (Nat.mul_le_mul_right _ h3) h5
 have his : i * 3 ≤ raws.length * 3 := Nat.mul_le_mul_right _ hi
 refine sR (aA ?_)
 refine nN (sR (mA ?_))
 refine mA ?_
 refine R.sL underlying29 sizeOf47 rfl rfl rfl  oA oA  ?_
 refine nN (sR (mA ?_))
 refine R.len underlying29 rfl rfl ?_
 refine aA ?_
 refine nN (T.seq (sR (mA ?_)))
 refine R.eql rfl rfl rfl ?_
 refine nN (T.set 16 (.bool false) (congrArg Value.bool (decide_eq_false oA)) ?_)
 refine T.condN rfl ?_
 refine T.skip (Post.thnN (sR ?_))
 refine mA ?_
 refine R.len underlying29 rfl rfl ?_
 refine aA ?_
 refine nN (T.seq (sR (mA ?_)))
 refine mA ?_
 refine R.eql rfl rfl rfl ?_
 refine nN (T.condD rfl (fun c22 => ?_) (fun c22 => ?_))
 refine sR (mA ?_)
 refine mA ?_
 refine R.app (E := (rawE 3)) (xs := raws) (ys := [vc]) (cells := vc) Tryz_tyR29 rfl rfl rfl ho .hd (Src.lit (vs := vc) (.tl .hd)) ⟨vc, [], by simp, ⟨rfl, hvc, h1⟩, rfl⟩ (by simp; omega) (by simp; omega) ?_
 intro v25 c25 w25
 refine aA ?_
 refine nN (T.ret (Post.thnR ?_))
 exact fin1L [c25] rfl rfl (List.Sublist.cons_cons _ (List.nil_sublist _)) ⟨_, rfl, by
     obtain rfl : i = raws.length := by omega
     rw [List.take_length, List.drop_length]; exact w25⟩
 refine T.skip (Post.thnN (T.seq ?_))
 refine T.seq ?_
 have hiz : i < raws.length := by omega
 have his1 : (i + 1) * 3 ≤ raws.length * 3 := Nat.mul_le_mul_right _ hiz
 refine T.region (mA ?_)
 refine mA ?_
 refine R.addI rfl rfl rfl oA ?_
 refine mA ?_
 refine R.cap underlying29 rfl rfl ?_
 refine R.gtr rfl rfl rfl ?_
 refine nN (T.condD rfl (fun c31 => ?_) (fun c31 => ?_))
 refine sR (mA ?_)
 refine mA ?_
 refine R.sH underlying29 sizeOf47 rfl rfl rfl oA oA ?_
 refine TL.set 34 (.slice (some ⟨b, 0, none⟩) i cap) (by exact slc_take0 (A := some ⟨b, 0, none⟩) (n := raws.length) (cap := cap) (sz := 3) (i := i)) ?_
 refine mA ?_
 refine mA ?_
 refine R.addI rfl rfl rfl oA ?_
 refine mA ?_
 refine R.subI rfl rfl rfl oA ?_
 refine TL.set 39 (.int .i64 ((raws.length + 1 - i : Nat) : Int)) (congrArg (Value.int .i64) oA) ?_
 refine R.appZG (E := (rawE 3)) (n := i) (m := raws.length + 1 - i) (cap := cap) (cs := cs) Tryz_tyR29 underlying3 rfl rfl rfl .hd oA oA (Nat.le_trans his hns) oA (by decide) ?_
 intro b2 a0 a1 hc2 hm2 a2 he2
 have hN2 : i + (raws.length + 1 - i) = raws.length + 1 := by omega
 rw [hN2] at hc2
 have a2 : a0 * 3 ≤ a1.size := a2
 have hs2 : (raws.length + 1) * 3 ≤ a1.size := Nat.le_trans (Nat.mul_le_mul_right _ hc2) a2
 refine TL.set 40 (.slice (some ⟨b2, 0, none⟩) (raws.length + 1) a0) (by show Value.slice (some ⟨b2, 0, none⟩) (i + (raws.length + 1 - i)) a0 = _; rw [hN2]) ?_
 refine aA ?_
 refine nN (sR (mA ?_))
 refine mA ?_
 refine R.sL underlying29 sizeOf47 rfl rfl rfl oA oA ?_
 refine TL.set 43 (.slice (some ⟨b2, i * 3, none⟩) (raws.length + 1 - i) (a0 - i)) (slc_lit (b := b2) (n := (raws.length + 1)) (c := a0) (l := i) (h := (raws.length + 1)) (m := a0) (sz := 3) oA) ?_
 refine mA ?_
 refine R.cpyB (E := (rawE 3)) (b := b2) (o := i * 3) (cs := a1) (vs := vc) Tryz_tyR29 rfl rfl rfl .hd (by rw [hvc, natMinL oA, Nat.one_mul]; rfl) oA h1 (src_own (cs := vc.toArray) (.tl (.tl .hd)) (fun j v hj => by rw [Nat.zero_add]; simpa using hj)) ?_
 refine nN (T.seq (T.draw k_2f kA ?_))
 refine vM 0 [1, 2, 3, 4, 5, 6, 7, 8] rfl rfl cA ?_
 refine vM 1 [2, 3, 4, 5, 6, 7, 8] rfl rfl cA ?_
 refine vM 2 [3, 4, 5, 6, 7, 8] rfl rfl cA ?_
 refine vA 3 [4, 5, 6, 7, 8] rfl (fun _ _ h_ => R.addI rfl rfl rfl oA (TL.nil h_)) ?_
 refine vA 4 [5, 6, 7, 8] rfl (fun _ _ h_ => R.sL underlying29 sizeOf47 rfl rfl rfl oA oA (TL.nil h_)) ?_
 refine Plan.set 50 (.slice (some ⟨b2, (i + 1) * 3, none⟩) (raws.length + 1 - (i + 1)) (a0 - (i + 1))) (slc_lit (b := b2) (n := (raws.length + 1)) (c := a0) (l := (i + 1)) (h := (raws.length + 1)) (m := a0) (sz := 3) oA) ?_
 refine vM 5 [6, 7, 8] rfl rfl cA ?_
 refine vM 6 [7, 8] rfl rfl cA ?_
 refine vA 7 [8] rfl (fun _ _ h_ => R.sL underlying29 sizeOf47 rfl rfl rfl oA oA (TL.nil h_)) ?_
 refine Plan.set 53 (.slice (some ⟨b, i * 3, none⟩) (raws.length - i) (cap - i)) (slc_lit (b := b) (n := raws.length) (c := cap) (l := i) (h := raws.length) (m := cap) (sz := 3) oA) ?_
 refine Plan.s1 8 [] kA kA rfl ?_
 refine R.cpyB (E := (rawE 3)) (b := b2) (o := (i + 1) * 3) (cs := setl a1 (i * 3) vc) (vs := (tlC cs i raws.length 3)) Tryz_tyR29 rfl rfl rfl .hd (by rw [tlC_len hi hns, natMinL oA]; rfl) (by rw [k_95, tlC_len hi hns]; omega) (tlC_one hp hi h6 hns) (src_own (cs := cs) (.tl .hd) (fun j v hj => by rw [← tlC_get (by have := (List.getElem?_eq_some_iff.1 hj).1; rwa [tlC_len hi hns] at this)]; exact hj)) ?_
 refine eA ?_
 refine Plan.done (Post.thnN ?_)
 refine sR (mA ?_)
 refine aA ?_
 refine nN (T.ret (Post.thnR ?_))
 have hT := tlC_len hi hns
 exact fin1L [_] rfl rfl (List.Sublist.cons_cons _ (List.nil_sublist _)) ⟨_, rfl, own_ins (cs := cs) hi hp h6 hvc h1 hc2 hm2 (by rw [k_95, k_95]; exact a2)
   (fun k hk => by rw [k_b8 _ _ _ _ (.inl oA), k_b8 _ _ _ _ (.inl oA), he2 k hk])
   (fun j hj => by rw [k_b8 _ _ _ _ (.inl oA), setl_in _ _ _ _ oA oA])
   (fun k hk hk2 => by
   obtain ⟨q, rfl⟩ : ∃ q, k = i * 3 + q := ⟨k - i * 3, by omega⟩
   have hq : q < (raws.length - i) * 3 := by rw [Nat.sub_mul]; omega
   rw [show i * 3 + q + 3 = (i + 1) * 3 + q by omega, setl_in _ _ _ _ (by rw [k_95]; omega) (by rw [hT]; exact hq), tlC_get hq])⟩
 refine T.skip (Post.thnN (T.seq ?_))
 have hcs1 : (raws.length + 1) * 3 ≤ cs.size := Nat.le_trans (Nat.mul_le_mul_right _ oA) h5
 refine T.region (mA ?_)
 refine mA ?_
 refine mA ?_
 refine R.addI rfl rfl rfl oA ?_
 refine R.sH underlying29 sizeOf47 rfl rfl rfl oA oA ?_
 refine TL.set 60 (.slice (some ⟨b, 0, none⟩) (raws.length + 1) cap) (by (try rw [show ((raws.length : Int) + 1).toNat = raws.length + 1 by omega]); exact slc_take0 (A := some ⟨b, 0, none⟩) (n := raws.length) (cap := cap) (sz := 3) (i := raws.length + 1)) ?_
 refine aA ?_
 refine nN (T.seq (sR (mA ?_)))
 refine mA ?_
 refine mA ?_
 refine mA ?_
 refine R.addI rfl rfl rfl oA ?_
 refine R.sL underlying29 sizeOf47 rfl rfl rfl oA oA ?_
 refine TL.set 66 (.slice (some ⟨b, (i + 1) * 3, none⟩) (raws.length + 1 - (i + 1)) (cap - (i + 1))) (slc_lit (b := b) (n := (raws.length + 1)) (c := cap) (l := (i + 1)) (h := (raws.length + 1)) (m := cap) (sz := 3) oA) ?_
 refine R.callX (v := .bool false) rfl rfl rfl (fun w hst => by obtain ⟨q1, q2, q3⟩ := ovl_pair hst; exact ovl_run (tR := 4) func208 rfl rfl rfl kA underlying29 sizeOf47 q1 q2 q3 oA) ?_
 refine R.not rfl rfl ?_
 refine nN (T.condY rfl ?_)
 refine T.seq (T.draw k_2f kA ?_)
 refine vM 0 [1, 2, 3, 4, 5, 6, 7, 8] rfl rfl cA ?_
 refine vM 1 [2, 3, 4, 5, 6, 7, 8] rfl rfl cA ?_
 refine vM 2 [3, 4, 5, 6, 7, 8] rfl rfl cA ?_
 refine vA 3 [4, 5, 6, 7, 8] rfl (fun _ _ h_ => R.addI rfl rfl rfl oA (TL.nil h_)) ?_
 refine vA 4 [5, 6, 7, 8] rfl (fun _ _ h_ => R.sL underlying29 sizeOf47 rfl rfl rfl oA oA (TL.nil h_)) ?_
 refine Plan.set 73 (.slice (some ⟨b, (i + 1) * 3, none⟩) (raws.length + 1 - (i + 1)) (cap - (i + 1))) (slc_lit (b := b) (n := (raws.length + 1)) (c := cap) (l := (i + 1)) (h := (raws.length + 1)) (m := cap) (sz := 3) oA) ?_
 refine vM 5 [6, 7, 8] rfl rfl cA ?_
 refine vM 6 [7, 8] rfl rfl cA ?_
 refine vA 7 [8] rfl (fun _ _ h_ => R.sL underlying29 sizeOf47 rfl rfl rfl oA oA (TL.nil h_)) ?_
 refine Plan.set 76 (.slice (some ⟨b, i * 3, none⟩) (raws.length + 1 - i) (cap - i)) (slc_lit (b := b) (n := (raws.length + 1)) (c := cap) (l := i) (h := (raws.length + 1)) (m := cap) (sz := 3) oA) ?_
 refine Plan.s1 8 [] kA kA rfl ?_
 refine R.cpyB (E := (rawE 3)) (b := b) (o := (i + 1) * 3) (cs := cs) (vs := (tlC cs i raws.length 3)) Tryz_tyR29 rfl rfl rfl .hd (by rw [tlC_len hi hns, natMinR oA]; congr 1; omega) (by rw [tlC_len hi hns]; omega) (tlC_one hp hi h6 hns) (src_own (cs := cs) .hd (fun j v hj => by rw [← tlC_get (by have := (List.getElem?_eq_some_iff.1 hj).1; rwa [tlC_len hi hns] at this)]; exact hj)) ?_
 refine eA ?_
 refine Plan.done (Post.thnN ?_)
 refine sR (mA ?_)
 refine mA ?_
 refine R.sL underlying29 sizeOf47 rfl rfl rfl oA oA ?_
 refine TL.set 80 (.slice (some ⟨b, i * 3, none⟩) (raws.length + 1 - i) (cap - i)) (slc_lit (b := b) (n := (raws.length + 1)) (c := cap) (l := i) (h := (raws.length + 1)) (m := cap) (sz := 3) oA) ?_
 refine mA ?_
 refine R.cpyB (E := (rawE 3)) (b := b) (o := i * 3) (cs := setl cs ((i + 1) * 3) (tlC cs i raws.length 3)) (vs := vc) Tryz_tyR29 rfl rfl rfl .hd (by rw [hvc, natMinL oA, Nat.one_mul]; rfl) (by rw [k_95]; omega) h1 (src_own (cs := vc.toArray) (.tl .hd) (fun j v hj => by rw [Nat.zero_add]; simpa using hj)) ?_
 refine nN (sR (mA ?_))
 refine aA ?_
 refine nN (T.ret (Post.thnR ?_))
 have hT := tlC_len hi hns
 exact fin1L [_] rfl rfl (List.Sublist.cons_cons _ (List.nil_sublist _)) ⟨_, rfl, own_ins (cs := cs) hi hp h6 hvc h1 oA h4 (by rw [k_95, k_95]; exact h5)
   (fun k hk => by rw [k_b8 _ _ _ _ (.inl oA), k_b8 _ _ _ _ (.inl oA)])
   (fun j hj => by rw [setl_in _ _ _ _ (by rw [k_95]; omega) oA])
   (fun k hk hk2 => by
   obtain ⟨q, rfl⟩ : ∃ q, k = i * 3 + q := ⟨k - i * 3, by omega⟩
   have hq : q < (raws.length - i) * 3 := by rw [Nat.sub_mul]; omega
   rw [show i * 3 + q + 3 = (i + 1) * 3 + q by omega, k_b8 _ _ _ _ (.inr oA), setl_in _ _ _ _ oA (by rw [hT]; exact hq), tlC_get hq])⟩
theorem insN29_c (H : Heap) (vc : List Value) (bv : Nat) (hvc : vc.length = 3) (h1 : ∀ u ∈ vc, u.oneCell' = true) : Fc Tryz.prog (fnv 169) [.slice none 0 0, .int .i64 (0 : Nat), .slice (some ⟨bv, 0, none⟩) 1 1] H [[(bv, .cells vc.toArray 47)]] (fun v' H' L' => ∃ c, L' = [c] ∧ OwnS (rawE 3) 47 H' v' [vc] c) := by
 refine Fc.of_body (N := 95) func169 rfl kA rfl rfl ?_
 intro w0
 refine sR (aA ?_)
 refine nN (sR (mA ?_))
 refine mA ?_
 refine R.sL underlying29 sizeOf47 rfl rfl rfl  oA oA  ?_
 refine nN (sR (mA ?_))
 refine R.len underlying29 rfl rfl ?_
 refine aA ?_
 refine nN (T.seq (sR (mA ?_)))
 refine R.eql rfl rfl rfl ?_
 refine nN (T.set 16 (.bool false) (congrArg Value.bool (decide_eq_false oA)) ?_)
 refine T.condN rfl ?_
 refine T.skip (Post.thnN (sR ?_))
 refine mA ?_
 refine R.len underlying29 rfl rfl ?_
 refine aA ?_
 refine nN (T.seq (sR (mA ?_)))
 refine mA ?_
 refine R.eql rfl rfl rfl ?_
 refine nN (T.set 22 (.bool true) (congrArg Value.bool (decide_eq_true oA)) ?_)
 refine T.condY rfl ?_
 refine T.seq (T.nilc ?_)
 refine T.region (mA ?_)
 refine mA ?_
 refine R.app (E := (rawE 3)) (xs := []) (ys := [vc]) (cells := vc) Tryz_tyR29 rfl rfl rfl OwnS.nil .hd (Src.lit (vs := vc) (.tl .hd)) ⟨vc, [], by simp, ⟨rfl, hvc, h1⟩, rfl⟩ (by simp) (by simp) ?_
 intro v25 c25 w25
 refine aA ?_
 refine nN (T.ret (Post.thnR ?_))
 exact fin1L [c25] rfl rfl (List.Sublist.cons_cons _ (List.nil_sublist _)) ⟨_, rfl, w25⟩
theorem insR29_c (H : Heap) (v : Value) (raws : List (List Value)) (ch : Chunk) (i : Nat) (vc : List Value) (bv : Nat) (ho : OwnS (rawE 3) 47 H v raws ch) (hi : i ≤ raws.length) (hl : raws.length ≤ 400000) (hvc : vc.length = 3) (h1 : ∀ u ∈ vc, u.oneCell' = true) :
    Fc Tryz.prog (fnv 169) [v, .int .i64 i, .slice (some ⟨bv, 0, none⟩) 1 1] H [ch, [(bv, .cells vc.toArray 47)]] (fun v' H' L' => ∃ c, L' = [c] ∧ OwnS (rawE 3) 47 H' v' (raws.take i ++ vc :: raws.drop i) c) := by
  rcases ho with ⟨rfl, rfl, rfl⟩ | ⟨b, cap, cs, rfl, rfl, h3, h4, h5, h6⟩
  · obtain rfl : i = 0 := by simpa using hi
    exact insN29_c H vc bv hvc h1
  · exact insS29_c H b cap cs raws i vc bv hi hl h3 h4 h5 h6 (.inr ⟨b, cap, cs, rfl, rfl, h3, h4, h5, h6⟩) hvc h1
theorem Tryz_tyR45 : TyE Tryz.prog 45 64 (rawE 1) 24 := TyE.mk' (z := .slice none 0 0) underlying45 (by kernel_rfl) rfl (by decide)
theorem insS45_c (H : Heap) (b cap : Nat) (cs : Array Value) (raws : List (List Value)) (i : Nat) (vc : List Value) (bv : Nat) (hi : i ≤ raws.length) (hl : raws.length ≤ 400000) (h3 : raws.length ≤ cap) (h4 : cap ≤ maxLen) (h5 : cap * 1 ≤ cs.size) (h6 : ∀ i x, raws[i]? = some x → ∃ l, (rawE 1).R H l x ∧ ∀ j u, l[j]? = some u → cs[i * 1 + j]? = some u) (ho : OwnS (rawE 1) 64 H (.slice (some ⟨b, 0, none⟩) raws.length cap) raws [(b, .cells cs 64)]) (hvc : vc.length = 1) (h1 : ∀ u ∈ vc, u.oneCell' = true) : Fc Tryz.prog (fnv 123) [.slice (some ⟨b, 0, none⟩) raws.length cap, .int .i64 i, .slice (some ⟨bv, 0, none⟩) 1 1] H [[(b, .cells cs 64)], [(bv, .cells vc.toArray 64)]] (fun v' H' L' => ∃ c, L' = [c] ∧ OwnS (rawE 1) 64 H' v' (raws.take i ++ vc :: raws.drop i) c) := by
 refine Fc.of_body (N := 95) func123 rfl kA rfl rfl ?_
 intro w0
 have hp : 0 < 1 := by decide
 have hns : raws.length * 1 ≤ cs.size := Nat.le_trans (Nat.mul_le_mul_right _ h3) h5
 have his : i * 1 ≤ raws.length * 1 := Nat.mul_le_mul_right _ hi
 refine sR (aA ?_)
 refine nN (sR (mA ?_))
 refine mA ?_
 refine R.sL underlying45 sizeOf64 rfl rfl rfl  oA oA  ?_
 refine nN (sR (mA ?_))
 refine R.len underlying45 rfl rfl ?_
 refine aA ?_
 refine nN (T.seq (sR (mA ?_)))
 refine R.eql rfl rfl rfl ?_
 refine nN (T.set 16 (.bool false) (congrArg Value.bool (decide_eq_false oA)) ?_)
 refine T.condN rfl ?_
 refine T.skip (Post.thnN (sR ?_))
 refine mA ?_
 refine R.len underlying45 rfl rfl ?_
 refine aA ?_
 refine nN (T.seq (sR (mA ?_)))
 refine mA ?_
 refine R.eql rfl rfl rfl ?_
 refine nN (T.condD rfl (fun c22 => ?_) (fun c22 => ?_))
 refine sR (mA ?_)
 refine mA ?_
 refine R.app (E := (rawE 1)) (xs := raws) (ys := [vc]) (cells := vc) Tryz_tyR45 rfl rfl rfl ho .hd (Src.lit (vs := vc) (.tl .hd)) ⟨vc, [], by simp, ⟨rfl, hvc, h1⟩, rfl⟩ (by simp; omega) (by simp; omega) ?_
 intro v25 c25 w25
 refine aA ?_
 refine nN (T.ret (Post.thnR ?_))
 exact fin1L [c25] rfl rfl (List.Sublist.cons_cons _ (List.nil_sublist _)) ⟨_, rfl, by
     obtain rfl : i = raws.length := by omega
     rw [List.take_length, List.drop_length]; exact w25⟩
 refine T.skip (Post.thnN (T.seq ?_))
 refine T.seq ?_
 have hiz : i < raws.length := by omega
 have his1 : (i + 1) * 1 ≤ raws.length * 1 := Nat.mul_le_mul_right _ hiz
 refine T.region (mA ?_)
 refine mA ?_
 refine R.addI rfl rfl rfl oA ?_
 refine mA ?_
 refine R.cap underlying45 rfl rfl ?_
 refine R.gtr rfl rfl rfl ?_
 refine nN (T.condD rfl (fun c31 => ?_) (fun c31 => ?_))
 refine sR (mA ?_)
 refine mA ?_
 refine R.sH underlying45 sizeOf64 rfl rfl rfl oA oA ?_
 refine TL.set 34 (.slice (some ⟨b, 0, none⟩) i cap) (by exact slc_take0 (A := some ⟨b, 0, none⟩) (n := raws.length) (cap := cap) (sz := 1) (i := i)) ?_
 refine mA ?_
 refine mA ?_
 refine R.addI rfl rfl rfl oA ?_
 refine mA ?_
 refine R.subI rfl rfl rfl oA ?_
 refine TL.set 39 (.int .i64 ((raws.length + 1 - i : Nat) : Int)) (congrArg (Value.int .i64) oA) ?_
 refine R.appZG (E := (rawE 1)) (n := i) (m := raws.length + 1 - i) (cap := cap) (cs := cs) Tryz_tyR45 underlying3 rfl rfl rfl .hd oA oA (Nat.le_trans his hns) oA (by decide) ?_
 intro b2 a0 a1 hc2 hm2 a2 he2
 have hN2 : i + (raws.length + 1 - i) = raws.length + 1 := by omega
 rw [hN2] at hc2
 have a2 : a0 * 1 ≤ a1.size := a2
 have hs2 : (raws.length + 1) * 1 ≤ a1.size := Nat.le_trans (Nat.mul_le_mul_right _ hc2) a2
 refine TL.set 40 (.slice (some ⟨b2, 0, none⟩) (raws.length + 1) a0) (by show Value.slice (some ⟨b2, 0, none⟩) (i + (raws.length + 1 - i)) a0 = _; rw [hN2]) ?_
 refine aA ?_
 refine nN (sR (mA ?_))
 refine mA ?_
 refine R.sL underlying45 sizeOf64 rfl rfl rfl oA oA ?_
 refine TL.set 43 (.slice (some ⟨b2, i * 1, none⟩) (raws.length + 1 - i) (a0 - i)) (slc_lit (b := b2) (n := (raws.length + 1)) (c := a0) (l := i) (h := (raws.length + 1)) (m := a0) (sz := 1) oA) ?_
 refine mA ?_
 refine R.cpyB (E := (rawE 1)) (b := b2) (o := i * 1) (cs := a1) (vs := vc) Tryz_tyR45 rfl rfl rfl .hd (by rw [hvc, natMinL oA, Nat.one_mul]; rfl) oA h1 (src_own (cs := vc.toArray) (.tl (.tl .hd)) (fun j v hj => by rw [Nat.zero_add]; simpa using hj)) ?_
 refine nN (T.seq (T.draw k_2f kA ?_))
 refine vM 0 [1, 2, 3, 4, 5, 6, 7, 8] rfl rfl cA ?_
 refine vM 1 [2, 3, 4, 5, 6, 7, 8] rfl rfl cA ?_
 refine vM 2 [3, 4, 5, 6, 7, 8] rfl rfl cA ?_
 refine vA 3 [4, 5, 6, 7, 8] rfl (fun _ _ h_ => R.addI rfl rfl rfl oA (TL.nil h_)) ?_
 refine vA 4 [5, 6, 7, 8] rfl (fun _ _ h_ => R.sL underlying45 sizeOf64 rfl rfl rfl oA oA (TL.nil h_)) ?_
 refine Plan.set 50 (.slice (some ⟨b2, (i + 1) * 1, none⟩) (raws.length + 1 - (i + 1)) (a0 - (i + 1))) (slc_lit (b := b2) (n := (raws.length + 1)) (c := a0) (l := (i + 1)) (h := (raws.length + 1)) (m := a0) (sz := 1) oA) ?_
 refine vM 5 [6, 7, 8] rfl rfl cA ?_
 refine vM 6 [7, 8] rfl rfl cA ?_
 refine vA 7 [8] rfl (fun _ _ h_ => R.sL underlying45 sizeOf64 rfl rfl rfl oA oA (TL.nil h_)) ?_
 refine Plan.set 53 (.slice (some ⟨b, i * 1, none⟩) (raws.length - i) (cap - i)) (slc_lit (b := b) (n := raws.length) (c := cap) (l := i) (h := raws.length) (m := cap) (sz := 1) oA) ?_
 refine Plan.s1 8 [] kA kA rfl ?_
 refine R.cpyB (E := (rawE 1)) (b := b2) (o := (i + 1) * 1) (cs := setl a1 (i * 1) vc) (vs := (tlC cs i raws.length 1)) Tryz_tyR45 rfl rfl rfl .hd (by rw [tlC_len hi hns, natMinL oA]; rfl) (by rw [k_95, tlC_len hi hns]; omega) (tlC_one hp hi h6 hns) (src_own (cs := cs) (.tl .hd) (fun j v hj => by rw [← tlC_get (by have := (List.getElem?_eq_some_iff.1 hj).1; rwa [tlC_len hi hns] at this)]; exact hj)) ?_
 refine eA ?_
 refine Plan.done (Post.thnN ?_)
 refine sR (mA ?_)
 refine aA ?_
 refine nN (T.ret (Post.thnR ?_))
 have hT := tlC_len hi hns
 exact fin1L [_] rfl rfl (List.Sublist.cons_cons _ (List.nil_sublist _)) ⟨_, rfl, own_ins (cs := cs) hi hp h6 hvc h1 hc2 hm2 (by rw [k_95, k_95]; exact a2)
   (fun k hk => by rw [k_b8 _ _ _ _ (.inl oA), k_b8 _ _ _ _ (.inl oA), he2 k hk])
   (fun j hj => by rw [k_b8 _ _ _ _ (.inl oA), setl_in _ _ _ _ oA oA])
   (fun k hk hk2 => by
   obtain ⟨q, rfl⟩ : ∃ q, k = i * 1 + q := ⟨k - i * 1, by omega⟩
   have hq : q < (raws.length - i) * 1 := by rw [Nat.sub_mul]; omega
   rw [show i * 1 + q + 1 = (i + 1) * 1 + q by omega, setl_in _ _ _ _ (by rw [k_95]; omega) (by rw [hT]; exact hq), tlC_get hq])⟩
 refine T.skip (Post.thnN (T.seq ?_))
 have hcs1 : (raws.length + 1) * 1 ≤ cs.size := Nat.le_trans (Nat.mul_le_mul_right _ oA) h5
 refine T.region (mA ?_)
 refine mA ?_
 refine mA ?_
 refine R.addI rfl rfl rfl oA ?_
 refine R.sH underlying45 sizeOf64 rfl rfl rfl oA oA ?_
 refine TL.set 60 (.slice (some ⟨b, 0, none⟩) (raws.length + 1) cap) (by (try rw [show ((raws.length : Int) + 1).toNat = raws.length + 1 by omega]); exact slc_take0 (A := some ⟨b, 0, none⟩) (n := raws.length) (cap := cap) (sz := 1) (i := raws.length + 1)) ?_
 refine aA ?_
 refine nN (T.seq (sR (mA ?_)))
 refine mA ?_
 refine mA ?_
 refine mA ?_
 refine R.addI rfl rfl rfl oA ?_
 refine R.sL underlying45 sizeOf64 rfl rfl rfl oA oA ?_
 refine TL.set 66 (.slice (some ⟨b, (i + 1) * 1, none⟩) (raws.length + 1 - (i + 1)) (cap - (i + 1))) (slc_lit (b := b) (n := (raws.length + 1)) (c := cap) (l := (i + 1)) (h := (raws.length + 1)) (m := cap) (sz := 1) oA) ?_
 refine R.callX (v := .bool false) rfl rfl rfl (fun w hst => by obtain ⟨q1, q2, q3⟩ := ovl_pair hst; exact ovl_run (tR := 4) func189 rfl rfl rfl kA underlying45 sizeOf64 q1 q2 q3 oA) ?_
 refine R.not rfl rfl ?_
 refine nN (T.condY rfl ?_)
 refine T.seq (T.draw k_2f kA ?_)
 refine vM 0 [1, 2, 3, 4, 5, 6, 7, 8] rfl rfl cA ?_
 refine vM 1 [2, 3, 4, 5, 6, 7, 8] rfl rfl cA ?_
 refine vM 2 [3, 4, 5, 6, 7, 8] rfl rfl cA ?_
 refine vA 3 [4, 5, 6, 7, 8] rfl (fun _ _ h_ => R.addI rfl rfl rfl oA (TL.nil h_)) ?_
 refine vA 4 [5, 6, 7, 8] rfl (fun _ _ h_ => R.sL underlying45 sizeOf64 rfl rfl rfl oA oA (TL.nil h_)) ?_
 refine Plan.set 73 (.slice (some ⟨b, (i + 1) * 1, none⟩) (raws.length + 1 - (i + 1)) (cap - (i + 1))) (slc_lit (b := b) (n := (raws.length + 1)) (c := cap) (l := (i + 1)) (h := (raws.length + 1)) (m := cap) (sz := 1) oA) ?_
 refine vM 5 [6, 7, 8] rfl rfl cA ?_
 refine vM 6 [7, 8] rfl rfl cA ?_
 refine vA 7 [8] rfl (fun _ _ h_ => R.sL underlying45 sizeOf64 rfl rfl rfl oA oA (TL.nil h_)) ?_
 refine Plan.set 76 (.slice (some ⟨b, i * 1, none⟩) (raws.length + 1 - i) (cap - i)) (slc_lit (b := b) (n := (raws.length + 1)) (c := cap) (l := i) (h := (raws.length + 1)) (m := cap) (sz := 1) oA) ?_
 refine Plan.s1 8 [] kA kA rfl ?_
 refine R.cpyB (E := (rawE 1)) (b := b) (o := (i + 1) * 1) (cs := cs) (vs := (tlC cs i raws.length 1)) Tryz_tyR45 rfl rfl rfl .hd (by rw [tlC_len hi hns, natMinR oA]; congr 1; omega) (by rw [tlC_len hi hns]; omega) (tlC_one hp hi h6 hns) (src_own (cs := cs) .hd (fun j v hj => by rw [← tlC_get (by have := (List.getElem?_eq_some_iff.1 hj).1; rwa [tlC_len hi hns] at this)]; exact hj)) ?_
 refine eA ?_
 refine Plan.done (Post.thnN ?_)
 refine sR (mA ?_)
 refine mA ?_
 refine R.sL underlying45 sizeOf64 rfl rfl rfl oA oA ?_
 refine TL.set 80 (.slice (some ⟨b, i * 1, none⟩) (raws.length + 1 - i) (cap - i)) (slc_lit (b := b) (n := (raws.length + 1)) (c := cap) (l := i) (h := (raws.length + 1)) (m := cap) (sz := 1) oA) ?_
 refine mA ?_
 refine R.cpyB (E := (rawE 1)) (b := b) (o := i * 1) (cs := setl cs ((i + 1) * 1) (tlC cs i raws.length 1)) (vs := vc) Tryz_tyR45 rfl rfl rfl .hd (by rw [hvc, natMinL oA, Nat.one_mul]; rfl) (by rw [k_95]; omega) h1 (src_own (cs := vc.toArray) (.tl .hd) (fun j v hj => by rw [Nat.zero_add]; simpa using hj)) ?_
 refine nN (sR (mA ?_))
 refine aA ?_
 refine nN (T.ret (Post.thnR ?_))
 have hT := tlC_len hi hns
 exact fin1L [_] rfl rfl (List.Sublist.cons_cons _ (List.nil_sublist _)) ⟨_, rfl, own_ins (cs := cs) hi hp h6 hvc h1 oA h4 (by rw [k_95, k_95]; exact h5)
   (fun k hk => by rw [k_b8 _ _ _ _ (.inl oA), k_b8 _ _ _ _ (.inl oA)])
   (fun j hj => by rw [setl_in _ _ _ _ (by rw [k_95]; omega) oA])
   (fun k hk hk2 => by
   obtain ⟨q, rfl⟩ : ∃ q, k = i * 1 + q := ⟨k - i * 1, by omega⟩
   have hq : q < (raws.length - i) * 1 := by rw [Nat.sub_mul]; omega
   rw [show i * 1 + q + 1 = (i + 1) * 1 + q by omega, k_b8 _ _ _ _ (.inr oA), setl_in _ _ _ _ oA (by rw [hT]; exact hq), tlC_get hq])⟩
theorem insN45_c (H : Heap) (vc : List Value) (bv : Nat) (hvc : vc.length = 1) (h1 : ∀ u ∈ vc, u.oneCell' = true) : Fc Tryz.prog (fnv 123) [.slice none 0 0, .int .i64 (0 : Nat), .slice (some ⟨bv, 0, none⟩) 1 1] H [[(bv, .cells vc.toArray 64)]] (fun v' H' L' => ∃ c, L' = [c] ∧ OwnS (rawE 1) 64 H' v' [vc] c) := by
 refine Fc.of_body (N := 95) func123 rfl kA rfl rfl ?_
 intro w0
 refine sR (aA ?_)
 refine nN (sR (mA ?_))
 refine mA ?_
 refine R.sL underlying45 sizeOf64 rfl rfl rfl  oA oA  ?_
 refine nN (sR (mA ?_))
 refine R.len underlying45 rfl rfl ?_
 refine aA ?_
 refine nN (T.seq (sR (mA ?_)))
 refine R.eql rfl rfl rfl ?_
 refine nN (T.set 16 (.bool false) (congrArg Value.bool (decide_eq_false oA)) ?_)
 refine T.condN rfl ?_
 refine T.skip (Post.thnN (sR ?_))
 refine mA ?_
 refine R.len underlying45 rfl rfl ?_
 refine aA ?_
 refine nN (T.seq (sR (mA ?_)))
 refine mA ?_
 refine R.eql rfl rfl rfl ?_
 refine nN (T.set 22 (.bool true) (congrArg Value.bool (decide_eq_true oA)) ?_)
 refine T.condY rfl ?_
 refine T.seq (T.nilc ?_)
 refine T.region (mA ?_)
 refine mA ?_
 refine R.app (E := (rawE 1)) (xs := []) (ys := [vc]) (cells := vc) Tryz_tyR45 rfl rfl rfl OwnS.nil .hd (Src.lit (vs := vc) (.tl .hd)) ⟨vc, [], by simp, ⟨rfl, hvc, h1⟩, rfl⟩ (by simp) (by simp) ?_
 intro v25 c25 w25
 refine aA ?_
 refine nN (T.ret (Post.thnR ?_))
 exact fin1L [c25] rfl rfl (List.Sublist.cons_cons _ (List.nil_sublist _)) ⟨_, rfl, w25⟩
theorem insR45_c (H : Heap) (v : Value) (raws : List (List Value)) (ch : Chunk) (i : Nat) (vc : List Value) (bv : Nat) (ho : OwnS (rawE 1) 64 H v raws ch) (hi : i ≤ raws.length) (hl : raws.length ≤ 400000) (hvc : vc.length = 1) (h1 : ∀ u ∈ vc, u.oneCell' = true) :
    Fc Tryz.prog (fnv 123) [v, .int .i64 i, .slice (some ⟨bv, 0, none⟩) 1 1] H [ch, [(bv, .cells vc.toArray 64)]] (fun v' H' L' => ∃ c, L' = [c] ∧ OwnS (rawE 1) 64 H' v' (raws.take i ++ vc :: raws.drop i) c) := by
  rcases ho with ⟨rfl, rfl, rfl⟩ | ⟨b, cap, cs, rfl, rfl, h3, h4, h5, h6⟩
  · obtain rfl : i = 0 := by simpa using hi
    exact insN45_c H vc bv hvc h1
  · exact insS45_c H b cap cs raws i vc bv hi hl h3 h4 h5 h6 (.inr ⟨b, cap, cs, rfl, rfl, h3, h4, h5, h6⟩) hvc h1
end Go.SX
namespace Go.SX
open Go Go.Proofs Go.Proofs.Tryz
def k_17 (a0 : ZS) : (ZS) × Int × Int :=
  if ((k_15 a0) : Int) ≠ 0 then ((((((fun _ => 0) : W24), (0, [], []), [], []) : ZS), 0, (k_15 a0))) else (LR.seq (k_47 a0.2.1) (fun r22 => if r22.2.2 ≠ 0 then ((((((fun _ => 0) : W24), (0, [], []), [], []) : ZS), 0, r22.2.2)) else (LR.seq (k_1 r22.2.1) (fun r36 => LR.seq (k_1b (((a0.1, (r22.1.1, r22.1.2.1, r22.1.2.2), a0.2.2.1, a0.2.2.2) : ZS)) r36.1) (fun r42 => (((a0.1, (r22.1.1, r22.1.2.1, r22.1.2.2), a0.2.2.1, (a0.2.2.2.take r42.1.toNat ++ (((r36.1, [], []) : ZR)) :: a0.2.2.2.drop r42.1.toNat)) : ZS), r22.2.1, 0))))))
theorem state_Grow_c (H : Heap) {tG0 : TypeId} (hG0 : gF H 0 tG0) {tG1 : TypeId} (hG1 : gA H 1 tG1) (a0 : ZS) (f3 : Value) (c2 : RdS slotE H f3 a0.2.1.2.1) (f4 : Value) (c3 : RdS (intE .i64) H f4 a0.2.1.2.2) (f5 : Value) (d3 : RdS relationE H f5 a0.2.2.1) (f6 : Value) (d4 : RdS rowE H f6 a0.2.2.2) (hS : StS a0) : Fc Tryz.prog (fnv 111) [.agg (c24 a0.1 [.int .i64 a0.2.1.1, f3, f4, f5, f6]).toArray] H [] (fun v' H' L' => ∃ g0 g1 g2 g3 g4, v' = .tuple #[.agg (c24 (k_17 a0).1.1 [.int .i64 (k_17 a0).1.2.1.1, g0, g1, g2, g3]).toArray, .int .u64 (k_17 a0).2.1, .int .i64 (k_17 a0).2.2] ∧ L' = [g4] ∧ RdS slotE H' g0 (k_17 a0).1.2.1.2.1 ∧ RdS (intE .i64) H' g1 (k_17 a0).1.2.1.2.2 ∧ RdS relationE H' g2 (k_17 a0).1.2.2.1 ∧ OwnS rowE 47 H' g3 (k_17 a0).1.2.2.2 g4) := by
 refine Fc.of_body (N := 55) func111 rfl kA rfl rfl ?_
 intro w0
 obtain ⟨b7, b8, rfl, i8, i9, c2⟩ := c2.shape
 obtain ⟨b9, c0, rfl, j0, j1, c3⟩ := c3.shape
 obtain ⟨c4, c5, rfl, j2, j3, d3⟩ := d3.shape
 obtain ⟨c6, c7, rfl, j4, j5, d4⟩ := d4.shape
 have hs5 := hS.ids
 have hs1 := hS.slots
 have hs2 := hS.free
 have hs3 := hS.rels
 have hs4 := hS.rows
 refine sR (R.box rfl cA ?_)
 intro b1
 refine R.alloc zeroValue31 rfl ?_
 intro b2
 refine aA ?_
 refine aA ?_
 refine nN (T.seq (sR (R.ldX (cs := (c24 a0.1 [.int .i64 (a0.2.1.1), .slice b7 a0.2.1.2.1.length b8, .slice b9 a0.2.1.2.2.length c0, .slice c4 a0.2.2.1.length c5, .slice c6 a0.2.2.2.length c7])) (l := (c24 a0.1 [.int .i64 (a0.2.1.1), .slice b7 a0.2.1.2.1.length b8, .slice b9 a0.2.1.2.2.length c0, .slice c4 a0.2.2.1.length c5, .slice c6 a0.2.2.2.length c7])) isAgg31 sizeOf31 rfl rfl (.tl .hd) rfl rfl ?_)))
 refine R.callv rfl rfl rfl (k_9d _ hG0 hG1 a0 _ c2 _ c3 _ d3 _ d4 (by assumption)) ?_
 refine aA ?_
 refine nN (sR (mA ?_))
 refine R.neq rfl rfl rfl ?_
 refine nN (T.condD rfl (fun e6 => ?_) (fun e6 => ?_))
 refine T.set 16 (.bool true) (congrArg Value.bool (decide_eq_true e6)) ?_
 refine sR (R.bld (cs := zSt) rfl (fun _ => by kernel_rfl) ?_)
 refine mA ?_
 refine stY (l := zSt) (new := zSt) .hd sizeOf31 rfl rfl ?_
 refine aA ?_
 refine aA ?_
 refine nN (T.has (Has.none (Has.cons .hd Has.nil)) ?_)
 refine T.ret (Post.thnR ?_)
 have hM : k_17 a0 = (((((fun _ => 0) : W24), (0, [], []), [], []) : ZS), 0, (k_15 a0)) := by rw [k_17, if_pos e6]
 exact finR3 (v := .agg zSt.toArray) (v' := .int .u64 0) (v'' := .int .i64 (k_15 a0)) [[]] rfl (.cellA (cs := zSt) (l := zSt) isAgg31 sizeOf31 rfl (.tl .hd) rfl rfl) (.tmp rfl) (.tmp rfl) (List.sublist_append_left ([[]] : Own) _) ⟨.slice none 0 0, .slice none 0 0, .slice none 0 0, .slice none 0 0, [], by first | rw [hM] | rfl, rfl, by rw [hM]; exact RdS.nil, by rw [hM]; exact RdS.nil, by rw [hM]; exact RdS.nil, by rw [hM]; exact OwnS.nil⟩
 refine T.set 16 (.bool false) (congrArg Value.bool (decide_eq_false e6)) ?_
 refine T.skip (Post.thnN (sR ?_))
 refine fA underlying31 rfl sizeOf27 ?_
 refine R.ldX (cs := (c24 a0.1 [.int .i64 (a0.2.1.1), sl b7 a0.2.1.2.1 b8, sl b9 a0.2.1.2.2 c0, sl c4 a0.2.2.1 c5, sl c6 a0.2.2.2 c7])) (l := [.int .i64 (a0.2.1.1), sl b7 a0.2.1.2.1 b8, sl b9 a0.2.1.2.2 c0]) isAgg27 sizeOf27 rfl rfl (.tl .hd) rfl rfl ?_
 obtain ⟨a1, e9⟩ : ∃ r, r = (k_47 a0.2.1) := ⟨_, rfl⟩
 refine TL.call [] rfl rfl rfl (alloc_Take_c _ hG1 a0.2.1 _ c2 _ c3 bA bA) ?_
 intro v22 H22 L22 g5 q22
 rw [← e9] at q22
 obtain ⟨j6, j7, j8, j9, rfl, rfl, e7, e8⟩ := q22
 obtain ⟨a2, a3, rfl, k0, k1⟩ := OwnS.shape e7
 obtain ⟨a4, a5, rfl, k2, k3⟩ := OwnS.shape e8
 have tt22 : a1.1.2.1.length ≤ 1100000 ∧ a1.1.2.2.length ≤ 1100000 := by rw [e9]; exact take_len bA
 refine mA ?_
 refine R.ext rfl rfl rfl ?_
 refine R.ext rfl rfl rfl ?_
 refine R.ext rfl rfl rfl ?_
 refine R.alloc zeroValue27 rfl ?_
 intro b6
 refine stY (l := [.int .i64 (a1.1.1), sl a2 a1.1.2.1 a3, sl a4 a1.1.2.2 a5]) (new := [.int .i64 (a1.1.1), sl a2 a1.1.2.1 a3, sl a4 a1.1.2.2 a5]) .hd sizeOf27 rfl rfl ?_
 refine aA ?_
 refine aA ?_
 refine TL.shut (.tl .hd) ?_
 intro g9 b0 f0
 have d5 := OwnS.read e7 b0 f0
 refine TL.shut (.tl .hd) ?_
 intro h0 a9 f1
 have d6 := OwnS.read (OwnS.mono e8 b0) a9 f1
 refine TL.shut .hd ?_
 intro h1 b5 h2
 have h3 : h1 b6 = some (.cells #[.int .i64 (a1.1.1), .slice a2 a1.1.2.1.length a3, .slice a4 a1.1.2.2.length a5] 27) := shut1 h2
 refine nN (T.seq (sR (mA ?_)))
 refine R.neq rfl rfl rfl ?_
 refine nN (T.condD rfl (fun f7 => ?_) (fun f7 => ?_))
 refine T.set 27 (.bool true) (congrArg Value.bool (decide_eq_true f7)) ?_
 refine sR (R.bld (cs := zSt) rfl (fun _ => by kernel_rfl) ?_)
 refine mA ?_
 refine stY (l := zSt) (new := zSt) .hd sizeOf31 rfl rfl ?_
 refine aA ?_
 refine aA ?_
 refine nN (T.has (Has.none (Has.cons .hd Has.nil)) ?_)
 refine T.ret (Post.thnR ?_)
 have hM : k_17 a0 = (((((fun _ => 0) : W24), (0, [], []), [], []) : ZS), 0, a1.2.2) := by subst e9; rw [k_17, if_neg e6, LR.seq_go, if_pos f7]
 exact finR3 (v := .agg zSt.toArray) (v' := .int .u64 0) (v'' := .int .i64 (a1.2.2)) [[]] rfl (.cellA (cs := zSt) (l := zSt) isAgg31 sizeOf31 rfl (.tl .hd) rfl rfl) (.tmp rfl) (.tmp rfl) (List.sublist_append_left ([[]] : Own) _) ⟨.slice none 0 0, .slice none 0 0, .slice none 0 0, .slice none 0 0, [], by first | rw [hM] | rfl, rfl, by rw [hM]; exact RdS.nil, by rw [hM]; exact RdS.nil, by rw [hM]; exact RdS.nil, by rw [hM]; exact OwnS.nil⟩
 refine T.set 27 (.bool false) (congrArg Value.bool (decide_eq_false f7)) ?_
 refine T.skip (Post.thnN (sR ?_))
 refine R.ldX (cs := (c24 a0.1 [.int .i64 (a0.2.1.1), sl b7 a0.2.1.2.1 b8, sl b9 a0.2.1.2.2 c0, sl c4 a0.2.2.1 c5, sl c6 a0.2.2.2 c7])) (l := (c24 a0.1 [.int .i64 (a0.2.1.1), sl b7 a0.2.1.2.1 b8, sl b9 a0.2.1.2.2 c0, sl c4 a0.2.2.1 c5, sl c6 a0.2.2.2 c7])) isAgg31 sizeOf31 rfl rfl (.tl .hd) rfl rfl ?_
 refine TL.call [] rfl rfl rfl (state_own_i _ a0 _ (c2.mono (g5.trans (b0.trans (a9.trans b5)))) _ (c3.mono (g5.trans (b0.trans (a9.trans b5)))) _ (d3.mono (g5.trans (b0.trans (a9.trans b5)))) _ (d4.mono (g5.trans (b0.trans (a9.trans b5)))) (by assumption)) ?_
 intro v31 H31 L31 f8 q31
 obtain ⟨h4, h5, h6, h7, h8, h9, rfl, rfl, d7, d8, d9, d2⟩ := q31
 obtain ⟨e0, e1, rfl, i0, i1, d7⟩ := RdS.shape d7
 obtain ⟨e2, e3, rfl, i2, i3, d8⟩ := RdS.shape d8
 obtain ⟨a6, a7, rfl, i4, i5⟩ := OwnS.shape d9
 obtain ⟨b3, b4, rfl, i6, i7⟩ := OwnS.shape d2
 refine stY (l := (c24 a0.1 [.int .i64 (a0.2.1.1), sl e0 a0.2.1.2.1 e1, sl e2 a0.2.1.2.2 e3, sl a6 a0.2.2.1 a7, sl b3 a0.2.2.2 b4])) (new := (c24 a0.1 [.int .i64 (a0.2.1.1), sl e0 a0.2.1.2.1 e1, sl e2 a0.2.1.2.2 e3, sl a6 a0.2.2.1 a7, sl b3 a0.2.2.2 b4])) (.tl (.tl (.tl .hd))) sizeOf31 rfl rfl ?_
 refine nN (sR (R.ldXH (cs := [.int .i64 (a1.1.1), .slice a2 a1.1.2.1.length a3, .slice a4 a1.1.2.2.length a5]) (l := [.int .i64 (a1.1.1), .slice a2 a1.1.2.1.length a3, .slice a4 a1.1.2.2.length a5]) isAgg27 sizeOf27 rfl rfl (f8 _ _ h3) rfl rfl ?_))
 refine fA underlying31 rfl sizeOf27 ?_
 refine stY (l := [.int .i64 (a1.1.1), sl a2 a1.1.2.1 a3, sl a4 a1.1.2.2 a5]) (new := (c24 a0.1 [.int .i64 (a1.1.1), sl a2 a1.1.2.1 a3, sl a4 a1.1.2.2 a5, sl a6 a0.2.2.1 a7, sl b3 a0.2.2.2 b4])) (.tl (.tl (.tl .hd))) sizeOf27 rfl rfl ?_
 refine nN (sR (mA ?_))
 obtain ⟨c8, g7⟩ : ∃ r, r = (k_1 a1.2.1) := ⟨_, rfl⟩
 refine R.callv (v := .tuple #[.int .i64 c8.1, .int .i64 c8.2]) rfl rfl rfl (by rw [g7]; exact k_57 _ (a1.2.1)) ?_
 refine mA ?_
 refine R.ext rfl rfl rfl ?_
 refine R.ext rfl rfl rfl ?_
 refine aA ?_
 refine aA ?_
 refine nN (sR (R.ldX (cs := (c24 a0.1 [.int .i64 (a1.1.1), .slice a2 a1.1.2.1.length a3, .slice a4 a1.1.2.2.length a5, .slice a6 a0.2.2.1.length a7, .slice b3 a0.2.2.2.length b4])) (l := (c24 a0.1 [.int .i64 (a1.1.1), .slice a2 a1.1.2.1.length a3, .slice a4 a1.1.2.2.length a5, .slice a6 a0.2.2.1.length a7, .slice b3 a0.2.2.2.length b4])) isAgg31 sizeOf31 rfl rfl (.tl (.tl (.tl .hd))) rfl rfl ?_))
 refine mA ?_
 refine TL.shut .hd ?_
 intro e4 a8 e5
 have c9 := OwnS.read d9 a8 e5
 obtain ⟨g6, f9⟩ : ∃ r, r = (k_1b (((a0.1, (a1.1.1, a1.1.2.1, a1.1.2.2), a0.2.2.1, a0.2.2.2) : ZS)) c8.1) := ⟨_, rfl⟩
 refine R.callvB (v := .tuple #[.int .i64 g6.1, .bool g6.2]) rfl rfl rfl (fun HB42 f2 qB42 => by have g8 := OwnS.read (OwnS.mono d2 a8) f2 (In.all .hd qB42); exact (by rw [f9]; exact state_find_c _ (((a0.1, (a1.1.1, a1.1.2.1, a1.1.2.2), a0.2.2.1, a0.2.2.2) : ZS)) _ (d5.mono (a9.trans (b5.trans (f8.trans (a8.trans f2))))) _ (d6.mono (b5.trans (f8.trans (a8.trans f2)))) _ (c9.mono f2) _ g8 (c8.1) bA)) ?_
 have tf42 := sfind_rng _ _ _ f9 bA
 refine mA ?_
 refine R.ext rfl rfl rfl ?_
 refine R.ext rfl rfl rfl ?_
 refine aA ?_
 refine aA ?_
 refine nN (sR (fA underlying31 rfl sizeOf29 ?_))
 refine R.ld isAgg29 rfl rfl (.tl (.tl .hd)) rfl ?_
 refine mA ?_
 refine mA ?_
 refine R.bld (cs := [.int .i64 (c8.1), .slice none 0 0, .slice none 0 0]) rfl (fun _ => by kernel_rfl) ?_
 refine R.bs (e := 47) (cs := [.int .i64 (c8.1), .slice none 0 0, .slice none 0 0]) rfl (fun _ => by kernel_rfl) ?_
 intro b50
 have w50 := lit1 (E := rowE) (e := 47) (H := e4) (b := b50) (y := ((c8.1, [], []) : ZR)) (a := [.int .i64 (c8.1), .slice none 0 0, .slice none 0 0]) ⟨_, _, rfl, RdS.nil, RdS.nil⟩
 refine TL.has (Has.cons (.tl .hd) (Has.cons .hd (Has.cons .hd (Has.cons .hd Has.nil)))) ?_
 refine TL.call [true, true] rfl rfl rfl (ins_typed (E := rowE) (e := 47) (xs := a0.2.2.2) (y := ((c8.1, [], []) : ZR)) (vc := [.int .i64 (c8.1), .slice none 0 0, .slice none 0 0]) insR29_c (OwnS.mono d2 a8) ⟨_, _, rfl, RdS.nil, RdS.nil⟩ bA bA bA) ?_
 intro v51 H51 L51 s51 q51
 obtain ⟨c51, rfl, w51⟩ := q51
 obtain ⟨c1, e51⟩ : ∃ x, x = (a0.2.2.2.take g6.1.toNat ++ (((c8.1, [], []) : ZR)) :: a0.2.2.2.drop g6.1.toNat) := ⟨_, rfl⟩
 rw [← e51] at w51
 obtain ⟨d0, d1, rfl, m51, n51⟩ := OwnS.shape w51
 have t51 : c1.length = a0.2.2.2.length + 1 := by rw [e51]; simp only [List.length_append, List.length_take, List.length_cons, List.length_drop]; omega
 refine fA underlying31 rfl sizeOf29 ?_
 refine stY (l := [sl d0 c1 d1]) (new := (c24 a0.1 [.int .i64 (a1.1.1), sl a2 a1.1.2.1 a3, sl a4 a1.1.2.2 a5, sl a6 a0.2.2.1 a7, sl d0 c1 d1])) (.tl (.tl .hd)) sizeOf29 rfl (cells1 rfl) ?_
 refine nN (sR (R.ldX (cs := (c24 a0.1 [.int .i64 (a1.1.1), .slice a2 a1.1.2.1.length a3, .slice a4 a1.1.2.2.length a5, .slice a6 a0.2.2.1.length a7, .slice d0 c1.length d1])) (l := (c24 a0.1 [.int .i64 (a1.1.1), .slice a2 a1.1.2.1.length a3, .slice a4 a1.1.2.2.length a5, .slice a6 a0.2.2.1.length a7, .slice d0 c1.length d1])) isAgg31 sizeOf31 rfl rfl (.tl (.tl .hd)) rfl rfl ?_))
 refine mA ?_
 refine stY (l := (c24 a0.1 [.int .i64 (a1.1.1), sl a2 a1.1.2.1 a3, sl a4 a1.1.2.2 a5, sl a6 a0.2.2.1 a7, sl d0 c1 d1])) (new := (c24 a0.1 [.int .i64 (a1.1.1), sl a2 a1.1.2.1 a3, sl a4 a1.1.2.2 a5, sl a6 a0.2.2.1 a7, sl d0 c1 d1])) (.tl .hd) sizeOf31 rfl rfl ?_
 refine aA ?_
 refine aA ?_
 refine nN (T.has (Has.cons .hd (Has.cons .hd Has.nil)) ?_)
 refine T.ret ?_
 have hM : k_17 a0 = (((a0.1, (a1.1.1, a1.1.2.1, a1.1.2.2), a0.2.2.1, c1) : ZS), a1.2.1, 0) := by subst e51; subst f9; subst g7; subst e9; rw [k_17, if_neg e6, LR.seq_go, if_neg f7, LR.seq_go, LR.seq_go]
 exact finR3 (v := .agg (c24 a0.1 [.int .i64 (a1.1.1), sl a2 a1.1.2.1 a3, sl a4 a1.1.2.2 a5, sl a6 a0.2.2.1 a7, sl d0 c1 d1]).toArray) (v' := .int .u64 (a1.2.1)) (v'' := .int .i64 0) [c51] rfl (.cellA (cs := (c24 a0.1 [.int .i64 (a1.1.1), sl a2 a1.1.2.1 a3, sl a4 a1.1.2.2 a5, sl a6 a0.2.2.1 a7, sl d0 c1 d1])) (l := (c24 a0.1 [.int .i64 (a1.1.1), sl a2 a1.1.2.1 a3, sl a4 a1.1.2.2 a5, sl a6 a0.2.2.1 a7, sl d0 c1 d1])) isAgg31 sizeOf31 rfl (.tl .hd) rfl rfl) (.tmp rfl) (.tmp rfl) (List.sublist_append_left ([c51] : Own) _) ⟨sl a2 a1.1.2.1 a3, sl a4 a1.1.2.2 a5, sl a6 a0.2.2.1 a7, sl d0 c1 d1, c51, by first | rw [hM] | rfl, rfl, by rw [hM]; exact (d5.mono (a9.trans (b5.trans (f8.trans (a8.trans s51))))), by rw [hM]; exact (d6.mono (b5.trans (f8.trans (a8.trans s51)))), by rw [hM]; exact (c9.mono s51), by rw [hM]; exact w51⟩
end Go.SX
namespace Go.SX
open Go Go.Proofs Go.Proofs.Tryz
def k_1c (a1 : (ZL) → Bool) : List (ZL) → Nat → Unit → LR (Int) (Unit)
  | [], kl1, sl1 => .go ()
  | yl1 :: ysl1, kl1, sl1 => if (a1 yl1) = true then (.ret ((kl1 : Int))) else (k_1c a1 ysl1 (kl1 + 1) ())
def k_b (a0 : List (ZL)) (a1 : (ZL) → Bool) : Int :=
  LR.on (k_1c a1 a0 0 ()) (fun r => r) (fun ol1 => (-1))
theorem slices_IndexFunc_Relation_c (H : Heap) (va0 : Value) (a0 : List (ZL)) (ha0 : RdS relationE H va0 a0) (a9 : Value) (a1 : (ZL) → Bool) (ha1 : ∀ H', HLe H H' → ∀ (z0 : ZL), Fv Tryz.prog a9 [.agg #[.int .i64 z0.1, .bool z0.2.1, .bool z0.2.2.1, .int .i64 z0.2.2.2.1, .int .i64 z0.2.2.2.2.1, .int .i64 z0.2.2.2.2.2]] H' (.bool (a1 z0))) (na1 : a9.oneCell' = true) : Fv Tryz.prog (fnv 166) [va0, a9] H (.int .i64 (k_b a0 a1)) := by
 refine Fc.of_body (N := 19) func166 rfl kA rfl rfl ?_
 intro w0
 obtain ⟨Aa0, ca0, rfl, hca0, hda0, ha0⟩ := ha0.shape
 refine sR (aA ?_)
 refine nN (T.seq (sR (mA ?_)))
 refine R.len underlying28 rfl rfl ?_
 refine mA ?_
 refine nN (T.block (T.loop (ι := Nat) (fun a2 H' L' ds' => a2 ≤ a0.length ∧ Has L' [] ∧ k_1c a1 (a0.drop a2) a2 () = k_1c a1 a0 0 ()) (fun a2 => [(8, .int .i64 (a2 : Int)), (0, .slice Aa0 a0.length ca0), (1, a9), (7, .int .i64 (a0.length : Int))]) (fun a2 => a0.length - a2) 0 ?_ ?_ ?_))
 exact ⟨oA, Has.nil, (by rfl)⟩
 exact ⟨rfl, rfl, rfl, rfl, trivial⟩
 intro a2 σ_l1 H_l1 L_l1 ds_l1 a6 a4
 obtain ⟨hkl1, a4⟩ := a4
 obtain ⟨hLl1, a7⟩ := a4
 refine T.has hLl1 ?_
 refine sR (R.lss rfl rfl rfl ?_)
 refine nN (T.seq (T.condD rfl (fun c9 => ?_) (fun c9 => ?_)))
 have hltl1 : a2 < a0.length := by omega
 obtain ⟨a3, a8⟩ := getk (xs := a0) (k := a2) oA
 refine T.skip (Post.thnN (T.seq ?_))
 refine T.block (sR (mA ?_))
 refine aA ?_
 refine nN (sR (mA ?_))
 refine mA ?_
 refine mA ?_
 obtain ⟨b14, o14, i14, k14⟩ := RdS.elem (ha0.mono a6) a8
 obtain ⟨l14, g14, k14⟩ := k14
 obtain rfl : l14 = [.int .i64 (a3.1), .bool (a3.2.1), .bool (a3.2.2.1), .int .i64 (a3.2.2.2.1), .int .i64 (a3.2.2.2.2.1), .int .i64 (a3.2.2.2.2.2)] := g14
 refine R.ixp underlying28 sizeOf55 rfl rfl rfl oA i14 ?_
 refine R.ldK (l := [.int .i64 (a3.1), .bool (a3.2.1), .bool (a3.2.2.1), .int .i64 (a3.2.2.2.1), .int .i64 (a3.2.2.2.2.1), .int .i64 (a3.2.2.2.2.2)]) isAgg55 sizeOf55 rfl rfl k14 rfl ?_
 refine R.callv rfl rfl rfl (ha1 _ a6 a3) ?_
 refine nN (T.cond rfl (fun a5 => ?_) (fun a5 => ?_))
 refine T.set 16 (.bool true) (congrArg Value.bool a5) ?_
 refine sR (mA ?_)
 refine aA ?_
 refine nN (T.has Has.nil ?_)
 refine T.ret (Post.blkR (Post.thnR (Post.thnR (Post.blkR (Post.thnR ?_)))))
 have hXl1 : k_1c a1 a0 0 () = .ret ((a2 : Int)) := by rw [← a7, k_8 a8, k_1c]; rw [if_t a5]
 have hM : k_b a0 a1 = (a2 : Int) := by rw [k_b, hXl1, LR.on_ret]
 exact fin1L (v := .int .i64 (a2 : Int)) [] rfl rfl (List.Sublist.refl _) ⟨rfl, by first | rw [hM] | rfl⟩
 refine T.set 16 (.bool false) (congrArg Value.bool a5) ?_
 refine T.skip (Post.blkN ?_)
 refine id (Post.thnN (T.region ?_))
 refine R.addI rfl rfl rfl oA ?_
 refine mA ?_
 refine nN ?_
 exact ⟨a2 + 1, a6, ⟨oA, Has.nil, (by rw [← a7, k_8 a8, k_1c]; rw [if_f a5])⟩, by show a0.length - (a2 + 1) < a0.length - a2; omega, rfl, rfl, rfl, rfl, trivial⟩
 refine T.exit (Post.thnE (Post.thnE (Post.blkX ?_)))
 have hEl1 : k_1c a1 a0 0 () = .go () := (a7.symm.trans (by rw [show a2 = a0.length by omega, List.drop_length, k_1c]))
 refine id (Post.thnN (sR ?_))
 refine aA ?_
 refine nN (T.has Has.nil ?_)
 refine T.ret ?_
 have hM : k_b a0 a1 = (-1) := by rw [k_b, hEl1, LR.on_go]
 exact fin1L (v := .int .i64 (-1)) [] rfl rfl (List.Sublist.refl _) ⟨rfl, by first | rw [hM] | rfl⟩
theorem idxf_Relation_l1 (p : (Int × Bool × Bool × Int × Int × Int) → Bool) : ∀ (l : List (Int × Bool × Bool × Int × Int × Int)) (k : Nat), (∃ j : Nat, k_1c p l k () = .ret (j : Int) ∧ k ≤ j ∧ (∃ y, l[j - k]? = some y ∧ p y = true) ∧ ∀ i, i < j - k → p (l.getD i ((0, (false, false, 0, 0, 0)) : Int × Bool × Bool × Int × Int × Int)) = false) ∨ (k_1c p l k () = .go () ∧ ∀ y ∈ l, p y = false)
  | [], k => .inr ⟨rfl, fun y h => by cases h⟩
  | x :: xs, k => by
    rw [k_1c]
    cases hx : p x with
    | true => rw [if_pos rfl]; exact .inl ⟨k, rfl, Nat.le_refl _, ⟨x, by rw [Nat.sub_self]; rfl, hx⟩, fun i hi => by omega⟩
    | false =>
      rw [if_neg Bool.false_ne_true]
      rcases idxf_Relation_l1 p xs (k + 1) with ⟨j, h1, h2, ⟨y, h3, h4⟩, h5⟩ | ⟨h1, h2⟩
      · refine .inl ⟨j, h1, by omega, ⟨y, by rw [show j - k = (j - (k + 1)) + 1 by omega]; exact h3, h4⟩, fun i hi => ?_⟩
        cases i with
        | zero => exact hx
        | succ i => exact h5 i (by omega)
      · refine .inr ⟨h1, fun y hy => ?_⟩
        rcases List.mem_cons.1 hy with rfl | hy
        · exact hx
        · exact h2 y hy
theorem idxf_Relation (l : List (Int × Bool × Bool × Int × Int × Int)) (p : (Int × Bool × Bool × Int × Int × Int) → Bool) : (∃ j : Nat, k_b l p = (j : Int) ∧ j < l.length ∧ p (l.getD j ((0, (false, false, 0, 0, 0)) : Int × Bool × Bool × Int × Int × Int)) = true ∧ ∀ i, i < j → p (l.getD i ((0, (false, false, 0, 0, 0)) : Int × Bool × Bool × Int × Int × Int)) = false) ∨ (k_b l p = -1 ∧ ∀ y ∈ l, p y = false) := by
  unfold k_b
  rcases idxf_Relation_l1 p l 0 with ⟨j, h1, h2, ⟨y, h3, h4⟩, h5⟩ | ⟨h1, h2⟩
  · rw [h1, LR.on_ret, Nat.sub_zero] at *
    exact .inl ⟨j, rfl, (List.getElem?_eq_some_iff.1 h3).1, by rw [List.getD_eq_getElem?_getD, h3]; exact h4, h5⟩
  · rw [h1, LR.on_go]; exact .inr ⟨rfl, h2⟩
theorem idxf_Relation_rng (l : List (Int × Bool × Bool × Int × Int × Int)) (p : (Int × Bool × Bool × Int × Int × Int) → Bool) : -1 ≤ k_b l p ∧ k_b l p < (l.length : Int) := by
  rcases idxf_Relation l p with ⟨j, h1, h2, _⟩ | ⟨h1, _⟩ <;> rw [h1] <;> omega
def k_2a (a1 : (ZR) → Bool) : List (ZR) → Nat → Unit → LR (Int) (Unit)
  | [], kl1, sl1 => .go ()
  | yl1 :: ysl1, kl1, sl1 => if (a1 yl1) = true then (.ret ((kl1 : Int))) else (k_2a a1 ysl1 (kl1 + 1) ())
def k_10 (a0 : List (ZR)) (a1 : (ZR) → Bool) : Int :=
  LR.on (k_2a a1 a0 0 ()) (fun r => r) (fun ol1 => (-1))
theorem slices_IndexFunc_Row_c (H : Heap) (va0 : Value) (a0 : List (ZR)) (ha0 : RdS rowE H va0 a0) (b0 : Value) (a1 : (ZR) → Bool) (ha1 : ∀ H', HLe H H' → ∀ (z0 : ZR) (b1 : Value) (hz0_1 : RdS (intE .u64) H' b1 z0.2.1) (b2 : Value) (hz0_2 : RdS (slE (intE .u64)) H' b2 z0.2.2), Fv Tryz.prog b0 [.agg #[.int .i64 z0.1, b1, b2]] H' (.bool (a1 z0))) (na1 : b0.oneCell' = true) : Fv Tryz.prog (fnv 167) [va0, b0] H (.int .i64 (k_10 a0 a1)) := by
 refine Fc.of_body (N := 19) func167 rfl kA rfl rfl ?_
 intro w0
 obtain ⟨Aa0, ca0, rfl, hca0, hda0, ha0⟩ := ha0.shape
 refine sR (aA ?_)
 refine nN (T.seq (sR (mA ?_)))
 refine R.len underlying29 rfl rfl ?_
 refine mA ?_
 refine nN (T.block (T.loop (ι := Nat) (fun a2 H' L' ds' => a2 ≤ a0.length ∧ Has L' [] ∧ k_2a a1 (a0.drop a2) a2 () = k_2a a1 a0 0 ()) (fun a2 => [(8, .int .i64 (a2 : Int)), (0, .slice Aa0 a0.length ca0), (1, b0), (7, .int .i64 (a0.length : Int))]) (fun a2 => a0.length - a2) 0 ?_ ?_ ?_))
 exact ⟨oA, Has.nil, (by rfl)⟩
 exact ⟨rfl, rfl, rfl, rfl, trivial⟩
 intro a2 σ_l1 H_l1 L_l1 ds_l1 a7 a3
 obtain ⟨hkl1, a3⟩ := a3
 obtain ⟨hLl1, a8⟩ := a3
 refine T.has hLl1 ?_
 refine sR (R.lss rfl rfl rfl ?_)
 refine nN (T.seq (T.condD rfl (fun c9 => ?_) (fun c9 => ?_)))
 have hltl1 : a2 < a0.length := by omega
 obtain ⟨b3, a9⟩ := getk (xs := a0) (k := a2) oA
 refine T.skip (Post.thnN (T.seq ?_))
 refine T.block (sR (mA ?_))
 refine aA ?_
 refine nN (sR (mA ?_))
 refine mA ?_
 refine mA ?_
 obtain ⟨b14, o14, i14, k14⟩ := RdS.elem (ha0.mono a7) a9
 obtain ⟨l14, g14, k14⟩ := k14
 obtain ⟨z14_1, z14_2, rfl, a4, a5⟩ := g14
 obtain ⟨b4, b5, rfl, m14_1, n14_1, a4⟩ := a4.shape
 obtain ⟨b6, b7, rfl, m14_2, n14_2, a5⟩ := a5.shape
 refine R.ixp underlying29 sizeOf47 rfl rfl rfl oA i14 ?_
 refine R.ldK (l := [.int .i64 (b3.1), sl b4 b3.2.1 b5, sl b6 b3.2.2 b7]) isAgg47 sizeOf47 rfl rfl k14 rfl ?_
 refine R.callv rfl rfl rfl (ha1 _ a7 b3 _ a4 _ a5) ?_
 refine nN (T.cond rfl (fun a6 => ?_) (fun a6 => ?_))
 refine T.set 16 (.bool true) (congrArg Value.bool a6) ?_
 refine sR (mA ?_)
 refine aA ?_
 refine nN (T.has Has.nil ?_)
 refine T.ret (Post.blkR (Post.thnR (Post.thnR (Post.blkR (Post.thnR ?_)))))
 have hXl1 : k_2a a1 a0 0 () = .ret ((a2 : Int)) := by rw [← a8, k_8 a9, k_2a]; rw [if_t a6]
 have hM : k_10 a0 a1 = (a2 : Int) := by rw [k_10, hXl1, LR.on_ret]
 exact fin1L (v := .int .i64 (a2 : Int)) [] rfl rfl (List.Sublist.refl _) ⟨rfl, by first | rw [hM] | rfl⟩
 refine T.set 16 (.bool false) (congrArg Value.bool a6) ?_
 refine T.skip (Post.blkN ?_)
 refine id (Post.thnN (T.region ?_))
 refine R.addI rfl rfl rfl oA ?_
 refine mA ?_
 refine nN ?_
 exact ⟨a2 + 1, a7, ⟨oA, Has.nil, (by rw [← a8, k_8 a9, k_2a]; rw [if_f a6])⟩, by show a0.length - (a2 + 1) < a0.length - a2; omega, rfl, rfl, rfl, rfl, trivial⟩
 refine T.exit (Post.thnE (Post.thnE (Post.blkX ?_)))
 have hEl1 : k_2a a1 a0 0 () = .go () := (a8.symm.trans (by rw [show a2 = a0.length by omega, List.drop_length, k_2a]))
 refine id (Post.thnN (sR ?_))
 refine aA ?_
 refine nN (T.has Has.nil ?_)
 refine T.ret ?_
 have hM : k_10 a0 a1 = (-1) := by rw [k_10, hEl1, LR.on_go]
 exact fin1L (v := .int .i64 (-1)) [] rfl rfl (List.Sublist.refl _) ⟨rfl, by first | rw [hM] | rfl⟩
theorem idxf_Row_l1 (p : (ZR) → Bool) : ∀ (l : List (ZR)) (k : Nat), (∃ j : Nat, k_2a p l k () = .ret (j : Int) ∧ k ≤ j ∧ (∃ y, l[j - k]? = some y ∧ p y = true) ∧ ∀ i, i < j - k → p (l.getD i ((0, [], []) : ZR)) = false) ∨ (k_2a p l k () = .go () ∧ ∀ y ∈ l, p y = false)
  | [], k => .inr ⟨rfl, fun y h => by cases h⟩
  | x :: xs, k => by
    rw [k_2a]
    cases hx : p x with
    | true => rw [if_pos rfl]; exact .inl ⟨k, rfl, Nat.le_refl _, ⟨x, by rw [Nat.sub_self]; rfl, hx⟩, fun i hi => by omega⟩
    | false =>
      rw [if_neg Bool.false_ne_true]
      rcases idxf_Row_l1 p xs (k + 1) with ⟨j, h1, h2, ⟨y, h3, h4⟩, h5⟩ | ⟨h1, h2⟩
      · refine .inl ⟨j, h1, by omega, ⟨y, by rw [show j - k = (j - (k + 1)) + 1 by omega]; exact h3, h4⟩, fun i hi => ?_⟩
        cases i with
        | zero => exact hx
        | succ i => exact h5 i (by omega)
      · refine .inr ⟨h1, fun y hy => ?_⟩
        rcases List.mem_cons.1 hy with rfl | hy
        · exact hx
        · exact h2 y hy
theorem idxf_Row (l : List (ZR)) (p : (ZR) → Bool) : (∃ j : Nat, k_10 l p = (j : Int) ∧ j < l.length ∧ p (l.getD j ((0, [], []) : ZR)) = true ∧ ∀ i, i < j → p (l.getD i ((0, [], []) : ZR)) = false) ∨ (k_10 l p = -1 ∧ ∀ y ∈ l, p y = false) := by
  unfold k_10
  rcases idxf_Row_l1 p l 0 with ⟨j, h1, h2, ⟨y, h3, h4⟩, h5⟩ | ⟨h1, h2⟩
  · rw [h1, LR.on_ret, Nat.sub_zero] at *
    exact .inl ⟨j, rfl, (List.getElem?_eq_some_iff.1 h3).1, by rw [List.getD_eq_getElem?_getD, h3]; exact h4, h5⟩
  · rw [h1, LR.on_go]; exact .inr ⟨rfl, h2⟩
theorem idxf_Row_rng (l : List (ZR)) (p : (ZR) → Bool) : -1 ≤ k_10 l p ∧ k_10 l p < (l.length : Int) := by
  rcases idxf_Row l p with ⟨j, h1, h2, _⟩ | ⟨h1, _⟩ <;> rw [h1] <;> omega
def k_1d (a0 : List (ZL)) (a1 : (ZL) → Bool) : Nat → (Int × Int × (List (ZL))) → Int × Int × (List (ZL))
  | 0, _ => default
  | ml1 + 1, sl1 => if sl1.2.1 < (a0.length : Int) then (if (!(a1 (sl1.2.2.getD sl1.2.1.toNat (((0, (false, false, 0, 0, 0)) : ZL) : ZL)))) = true then (k_1d a0 a1 ml1 (((sl1.1 + 1), (sl1.2.1 + 1), (sl1.2.2.set sl1.1.toNat (sl1.2.2.getD sl1.2.1.toNat (((0, (false, false, 0, 0, 0)) : ZL) : ZL)))))) else (k_1d a0 a1 ml1 ((sl1.1, (sl1.2.1 + 1), sl1.2.2)))) else ((sl1.1, sl1.2.1, sl1.2.2))
def k_25 (a0 : List (ZL)) (a1 : (ZL) → Bool) : (List (ZL)) :=
  if ((k_b a0 a1) : Int) = (-1) then a0 else (LR.seq (k_1d a0 a1 (((a0.length : Int) - (((k_b a0 a1) + 1))).toNat + 1) (((k_b a0 a1), ((k_b a0 a1) + 1), a0))) (fun ol1 => ((ol1.2.2.take (ol1.1).toNat).take ol1.1.toNat)))
theorem slices_DeleteFunc_Relation_c (H : Heap) (va0 : Value) (a0 : List (ZL)) (b6 : Chunk) (c5 : OwnS relationE 55 H va0 a0 b6) (c6 : Value) (a1 : (ZL) → Bool) (ha1 : ∀ H', HLe H H' → ∀ (z0 : ZL), Fv Tryz.prog c6 [.agg #[.int .i64 z0.1, .bool z0.2.1, .bool z0.2.2.1, .int .i64 z0.2.2.2.1, .int .i64 z0.2.2.2.2.1, .int .i64 z0.2.2.2.2.2]] H' (.bool (a1 z0))) (na1 : c6.oneCell' = true) (hl : a0.length ≤ 2000000) : Fc Tryz.prog (fnv 95) [va0, c6] H [b6] (fun v' H' L' => ∃ d0 d1, v' = d0 ∧ L' = [d1] ∧ OwnS relationE 55 H' d0 (k_25 a0 a1) d1) := by
 refine Fc.of_body (N := 42) func95 rfl kA rfl rfl ?_
 intro w0
 obtain ⟨b2, b1, rfl, ma0, na0⟩ := OwnS.shape c5
 refine sR (aA ?_)
 refine nN (sR (mA ?_))
 refine mA ?_
 refine R.callvB rfl rfl rfl (fun HB10 d2 qB10 => by have d3 := OwnS.read c5 d2 (In.all .hd qB10); exact (slices_IndexFunc_Relation_c _ _ a0 d3 _ a1 (fun H' h' => ha1 H' (d2.trans h')) na1)) ?_
 refine aA ?_
 refine nN (T.seq (sR (mA ?_)))
 refine R.eql rfl rfl rfl ?_
 refine nN (T.condD rfl (fun b8 => ?_) (fun b8 => ?_))
 refine T.set 12 (.bool true) (congrArg Value.bool (decide_eq_true b8)) ?_
 refine sR (mA ?_)
 refine aA ?_
 refine nN (T.has (Has.cons .hd Has.nil) ?_)
 refine T.ret (Post.thnR ?_)
 have hM : k_25 a0 a1 = a0 := by rw [k_25, if_pos b8]
 exact fin1L (v := sl b2 a0 b1) [b6] rfl rfl (List.Sublist.refl _) ⟨sl b2 a0 b1, b6, by first | rw [hM] | rfl, rfl, by rw [hM]; exact c5⟩
 refine T.set 12 (.bool false) (congrArg Value.bool (decide_eq_false b8)) ?_
 refine T.skip (Post.thnN (T.seq ?_))
 refine T.seq ?_
 have hx := idxf_Relation_rng a0 a1
 refine T.region (mA ?_)
 refine R.addI rfl rfl rfl oA ?_
 refine aA ?_
 refine nN (T.block (T.loop (ι := Nat × Int × Int × (List (ZL)) × Chunk) (fun ⟨b0, a3, a5, a4, a7⟩ H' L' ds' => ((a0.length : Int) - a5).toNat < b0 ∧ Has L' [a7] ∧ OwnS relationE 55 H' (.slice b2 a0.length b1) a4 a7 ∧ 0 ≤ a3 ∧ a3 + 1 ≤ a5 ∧ a5 ≤ (a0.length : Int) ∧ k_1d a0 a1 b0 ((a3, a5, a4)) = k_1d a0 a1 (((a0.length : Int) - (((k_b a0 a1) + 1))).toNat + 1) (((k_b a0 a1), ((k_b a0 a1) + 1), a0))) (fun ⟨b0, a3, a5, a4, a7⟩ => [(0, .slice b2 a0.length b1), (1, c6), (5, .int .i64 a3), (6, .int .i64 a5)]) (fun ⟨b0, a3, a5, a4, a7⟩ => b0) ((((a0.length : Int) - (((k_b a0 a1) + 1))).toNat + 1), (k_b a0 a1), ((k_b a0 a1) + 1), a0, b6) ?_ ?_ ?_))
 exact ⟨oA, (Has.cons .hd Has.nil), c5, bA, bA, bA, (by rfl)⟩
 exact ⟨rfl, rfl, rfl, rfl, trivial⟩
 intro ⟨b0, a3, a5, a4, a7⟩ σ_l1 H_l1 L_l1 ds_l1 c1 b5
 obtain ⟨hkl1, b5⟩ := b5
 obtain ⟨b3, rfl⟩ : ∃ m, b0 = m + 1 := ⟨b0 - 1, by omega⟩
 obtain ⟨hLl1, a6, hBl1_0, hBl1_1, hBl1_2, c2⟩ := b5
 have d6 := OwnS.len a6
 refine T.has hLl1 ?_
 refine T.seq (sR (mA ?_))
 refine mA ?_
 refine R.len underlying28 rfl rfl ?_
 refine R.lss rfl rfl rfl ?_
 refine nN (T.condD rfl (fun b4 => ?_) (fun b4 => ?_))
 refine T.set 19 (.bool true) (congrArg Value.bool (decide_eq_true b4)) ?_
 refine T.skip (Post.thnN (T.seq ?_))
 refine T.block (sR (mA ?_))
 refine mA ?_
 have c3 : a5.toNat < a0.length := bA
 obtain ⟨a2, e24, h24⟩ : ∃ y, y = (a4.getD a5.toNat (((0, (false, false, 0, 0, 0)) : ZL) : ZL)) ∧ a4[a5.toNat]? = some y := ⟨_, rfl, k_46 (by first | exact c3 | simpa using c3 | (simp only [List.length_set]; omega) | omega | (rw [(k_26 _).length_eq]; exact c3))⟩
 obtain ⟨b24, u24, cs24, l24, f24, j24, i24, g24, k24⟩ := OwnS.elem a6 h24
 obtain rfl : l24 = [.int .i64 (a2.1), .bool (a2.2.1), .bool (a2.2.2.1), .int .i64 (a2.2.2.2.1), .int .i64 (a2.2.2.2.2.1), .int .i64 (a2.2.2.2.2.2)] := g24
 refine R.ixp (sz := (relationE).size) underlying28 sizeOf55 rfl rfl rfl bA i24 ?_
 refine R.ldAt (l := [.int .i64 (a2.1), .bool (a2.2.1), .bool (a2.2.2.1), .int .i64 (a2.2.2.2.1), .int .i64 (a2.2.2.2.2.1), .int .i64 (a2.2.2.2.2.2)]) isAgg55 sizeOf55 rfl rfl (by rw [← f24]; exact .hd) rfl (fun j u h => k24 j u h) ?_
 refine R.alloc zeroValue55 rfl ?_
 intro b7
 refine stY (l := [.int .i64 (a2.1), .bool (a2.2.1), .bool (a2.2.2.1), .int .i64 (a2.2.2.2.1), .int .i64 (a2.2.2.2.2.1), .int .i64 (a2.2.2.2.2.2)]) (new := [.int .i64 (a2.1), .bool (a2.2.1), .bool (a2.2.2.1), .int .i64 (a2.2.2.2.1), .int .i64 (a2.2.2.2.2.1), .int .i64 (a2.2.2.2.2.2)]) .hd sizeOf55 rfl rfl ?_
 refine TL.shut .hd ?_
 intro d4 a9 d5
 have c7 : d4 b7 = some (.cells #[.int .i64 (a2.1), .bool (a2.2.1), .bool (a2.2.2.1), .int .i64 (a2.2.2.2.1), .int .i64 (a2.2.2.2.2.1), .int .i64 (a2.2.2.2.2.2)] 55) := shut1 d5
 refine nN (sR (mA ?_))
 refine R.ldXH (cs := [.int .i64 (a2.1), .bool (a2.2.1), .bool (a2.2.2.1), .int .i64 (a2.2.2.2.1), .int .i64 (a2.2.2.2.2.1), .int .i64 (a2.2.2.2.2.2)]) (l := [.int .i64 (a2.1), .bool (a2.2.1), .bool (a2.2.2.1), .int .i64 (a2.2.2.2.1), .int .i64 (a2.2.2.2.2.1), .int .i64 (a2.2.2.2.2.2)]) isAgg55 sizeOf55 rfl rfl c7 rfl rfl ?_
 refine R.callv rfl rfl rfl (ha1 _ (c1.trans a9) a2) ?_
 refine R.not rfl rfl ?_
 refine nN (T.cond rfl (fun b9 => ?_) (fun b9 => ?_))
 refine T.set 29 (.bool true) (congrArg Value.bool b9) ?_
 refine sR (mA ?_)
 refine mA ?_
 refine R.ldXH (cs := [.int .i64 (a2.1), .bool (a2.2.1), .bool (a2.2.2.1), .int .i64 (a2.2.2.2.1), .int .i64 (a2.2.2.2.2.1), .int .i64 (a2.2.2.2.2.2)]) (l := [.int .i64 (a2.1), .bool (a2.2.1), .bool (a2.2.2.1), .int .i64 (a2.2.2.2.1), .int .i64 (a2.2.2.2.2.1), .int .i64 (a2.2.2.2.2.2)]) isAgg55 sizeOf55 rfl rfl c7 rfl rfl ?_
 have c4 : a3.toNat < a0.length := bA
 obtain ⟨a8, e33, h33⟩ : ∃ y, y = (a4.getD a3.toNat (((0, (false, false, 0, 0, 0)) : ZL) : ZL)) ∧ a4[a3.toNat]? = some y := ⟨_, rfl, k_46 (by first | exact c4 | simpa using c4 | (simp only [List.length_set]; omega) | omega | (rw [(k_26 _).length_eq]; exact c4))⟩
 obtain ⟨b33, u33, cs33, l33, f33, j33, i33, g33, k33⟩ := OwnS.elem (OwnS.mono a6 a9) h33
 obtain rfl : l33 = [.int .i64 (a8.1), .bool (a8.2.1), .bool (a8.2.2.1), .int .i64 (a8.2.2.2.1), .int .i64 (a8.2.2.2.2.1), .int .i64 (a8.2.2.2.2.2)] := g33
 refine R.ixp (sz := (relationE).size) underlying28 sizeOf55 rfl rfl rfl bA i33 ?_
 refine R.stEF (E := relationE) (e := 55) (v := (sl b2 a0 b1)) (m := [.int .i64 (a2.1), .bool (a2.2.1), .bool (a2.2.2.1), .int .i64 (a2.2.2.2.1), .int .i64 (a2.2.2.2.2.1), .int .i64 (a2.2.2.2.2.2)]) (o := 0) (y := a8) (y' := a2) (j := a3.toNat) sizeOf55 rfl (OwnS.mono a6 a9) .hd i33 rfl rfl rfl (k_3 rfl) h33 (by show 0 + 6 ≤ 6; decide) (fun l hl => by have e0 : l = [.int .i64 (a8.1), .bool (a8.2.1), .bool (a8.2.2.1), .int .i64 (a8.2.2.2.1), .int .i64 (a8.2.2.2.2.1), .int .i64 (a8.2.2.2.2.2)] := hl; subst e0; exact rfl) ?_
 intro cst6 wst6
 refine nN (T.region (mA ?_))
 refine R.addI rfl rfl rfl oA ?_
 refine aA ?_
 refine TL.nil (Post.blkN ?_)
 refine id (Post.thnN (T.region ?_))
 refine mA ?_
 refine R.addI rfl rfl rfl oA ?_
 refine aA ?_
 refine nN ?_
 exact ⟨(b3, (a3 + 1), (a5 + 1), (a4.set a3.toNat a2), cst6), (c1.trans a9), ⟨(by first | omega | (simp; omega) | (simp at *; omega)), (Has.cons .hd Has.nil), wst6, bA, bA, bA, (by subst e33; subst e24; rw [← c2, k_1d]; rw [if_pos b4, if_t b9])⟩, by show b3 < b3 + 1; omega, rfl, rfl, rfl, rfl, trivial⟩
 refine T.set 29 (.bool false) (congrArg Value.bool b9) ?_
 refine T.skip (Post.blkN ?_)
 refine id (Post.thnN (T.region ?_))
 refine mA ?_
 refine R.addI rfl rfl rfl oA ?_
 refine aA ?_
 refine nN ?_
 exact ⟨(b3, a3, (a5 + 1), a4, a7), (c1.trans a9), ⟨(by first | omega | (simp; omega) | (simp at *; omega)), (Has.cons .hd Has.nil), (OwnS.mono a6 a9), bA, bA, bA, (by subst e24; rw [← c2, k_1d]; rw [if_pos b4, if_f b9])⟩, by show b3 < b3 + 1; omega, rfl, rfl, rfl, rfl, trivial⟩
 refine T.set 19 (.bool false) (congrArg Value.bool (decide_eq_false b4)) ?_
 refine T.exit (Post.thnE (Post.thnE (Post.blkX ?_)))
 have hEl1 : k_1d a0 a1 (((a0.length : Int) - (((k_b a0 a1) + 1))).toNat + 1) (((k_b a0 a1), ((k_b a0 a1) + 1), a0)) = (a3, a5, a4) := (by rw [← c2, k_1d]; rw [if_neg b4])
 refine id (Post.thnN (sR ?_))
 refine mA ?_
 refine mA ?_
 refine R.sL underlying28 sizeOf55 rfl rfl rfl oA oA ?_
 obtain ⟨xz7, ez7⟩ : ∃ x, x = (a4.take (a3).toNat) := ⟨_, rfl⟩
 have tz7 : xz7.length = (a3).toNat := by rw [ez7, List.length_take]; (try simp only [List.length_set]); omega
 refine R.clr (dd := none) (xs := xz7) (A := b2) (cap := b1) Tryz_ty28 (zone_of (z := .agg #[.int .i64 0, .bool false, .bool false, .int .i64 0, .int .i64 0, .int .i64 0]) kA (by intro v hv; simp [Value.cells] at hv; rcases hv with rfl | rfl | rfl | rfl | rfl | rfl <;> rfl)) rfl (fun q h => by cases h) (m := a0.length) (by rw [tz7]; rfl) (by rw [tz7, ez7]; exact own_take0 (by have hz_ := a6; have hq_ := (OwnS.len a6); rw [hq_] at hz_; exact hz_) (by (try simp only [List.length_set]); omega)) .hd oA oA ?_
 intro cz7 wz7
 refine nN (sR (mA ?_))
 refine mA ?_
 have c8 := OwnS.takeM wz7 (i := a3.toNat) (m := b1) (by first | omega | (simp; omega)) (by first | omega | (simp; omega)) (by first | omega | (simp; omega))
 obtain ⟨c0, e41⟩ : ∃ x, x = (xz7.take a3.toNat) := ⟨_, rfl⟩
 rw [← e41] at c8
 obtain ⟨A41, p41, c9, m41, n41⟩ := OwnS.shape c8
 have t41 : c0.length = a3.toNat := by rw [e41, List.length_take]; omega
 refine R.sH underlying28 sizeOf55 rfl rfl rfl (by first | omega | (simp; omega)) (by first | omega | (simp; omega))  ?_
 refine TL.set 41 (.slice A41 c0.length p41) (by first | exact c9 | (rw [← c9]; simp; done) | (rw [← c9]; rfl)) ?_
 rw [c9] at c8
 refine aA ?_
 refine nN (T.has (Has.cons .hd Has.nil) ?_)
 refine T.ret ?_
 have hM : k_25 a0 a1 = c0 := by subst e41; subst ez7; rw [k_25, if_neg b8, hEl1, LR.seq_go]
 exact fin1L (v := sl A41 c0 p41) [cz7] rfl rfl (List.Sublist.refl _) ⟨sl A41 c0 p41, cz7, by first | rw [hM] | rfl, rfl, by rw [hM]; exact c8⟩
theorem delf_Relation_l1 (a : List (Int × Bool × Bool × Int × Int × Int)) (p : (Int × Bool × Bool × Int × Int × Int) → Bool) : ∀ (r i j m : Nat) (cur : List (Int × Bool × Bool × Int × Int × Int)), a.length - j ≤ r → r < m → i + 1 ≤ j → j ≤ a.length → cur.length = a.length → cur.take i = (a.take j).filter (fun y => !p y) → (∀ q, j ≤ q → cur.getD q ((0, (false, false, 0, 0, 0)) : Int × Bool × Bool × Int × Int × Int) = a.getD q ((0, (false, false, 0, 0, 0)) : Int × Bool × Bool × Int × Int × Int)) →
    ∃ (i' : Nat) (cur' : List (Int × Bool × Bool × Int × Int × Int)) (o : Int), k_1d a p m ((i : Int), (j : Int), cur) = ((i' : Int), o, cur') ∧ cur'.take i' = a.filter (fun y => !p y)
  | r, i, j, 0, cur, _, h, _, _, _, _, _ => by omega
  | r, i, j, m + 1, cur, h1, h2, h3, h4, h5, h6, h7 => by
    rw [k_1d]
    dsimp only
    by_cases hj : j < a.length
    · rw [if_pos (show (j : Int) < (a.length : Int) by omega), Int.toNat_natCast, h7 j (Nat.le_refl _)]
      have hs : a.take (j + 1) = a.take j ++ [a.getD j ((0, (false, false, 0, 0, 0)) : Int × Bool × Bool × Int × Int × Int)] := by rw [List.take_add_one, List.getD_eq_getElem?_getD, List.getElem?_eq_getElem hj]; rfl
      cases r with
      | zero => omega
      | succ r =>
        cases hp : p (a.getD j ((0, (false, false, 0, 0, 0)) : Int × Bool × Bool × Int × Int × Int)) with
        | true =>
          rw [if_neg (by decide)]
          exact delf_Relation_l1 a p r i (j + 1) m cur (by omega) (by omega) (by omega) (by omega) h5 (by rw [hs, List.filter_append, h6, show [a.getD j ((0, (false, false, 0, 0, 0)) : Int × Bool × Bool × Int × Int × Int)].filter (fun y => !p y) = [] by rw [List.filter_cons, hp]; rfl, List.append_nil]) (fun q hq => h7 q (by omega))
        | false =>
          rw [if_pos (by decide), Int.toNat_natCast]
          refine delf_Relation_l1 a p r (i + 1) (j + 1) m (cur.set i (a.getD j ((0, (false, false, 0, 0, 0)) : Int × Bool × Bool × Int × Int × Int))) (by omega) (by omega) (by omega) (by omega) (by rw [List.length_set]; exact h5) ?_ (fun q hq => ?_)
          · rw [hs, List.filter_append, ← h6, List.take_add_one, List.take_set_of_le (Nat.le_refl _), List.getElem?_set_self (by omega), show [a.getD j ((0, (false, false, 0, 0, 0)) : Int × Bool × Bool × Int × Int × Int)].filter (fun y => !p y) = [a.getD j ((0, (false, false, 0, 0, 0)) : Int × Bool × Bool × Int × Int × Int)] by rw [List.filter_cons, hp]; rfl]; rfl
          · rw [List.getD_eq_getElem?_getD, List.getElem?_set_ne (by omega), ← List.getD_eq_getElem?_getD]; exact h7 q (by omega)
    · rw [if_neg (show ¬ (j : Int) < (a.length : Int) by omega)]
      exact ⟨i, cur, _, rfl, by rw [h6, List.take_of_length_le (by omega)]⟩
theorem delf_Relation (a : List (Int × Bool × Bool × Int × Int × Int)) (p : (Int × Bool × Bool × Int × Int × Int) → Bool) : k_25 a p = a.filter (fun y => !p y) := by
  unfold k_25
  rcases idxf_Relation a p with ⟨j, h1, h2, h3, h4⟩ | ⟨h1, h2⟩
  · rw [h1, if_neg (by omega)]
    have e : a.take j = (a.take (j + 1)).filter (fun y => !p y) := by
      rw [List.take_add_one, List.getElem?_eq_getElem h2, List.filter_append]
      have h3' : p a[j] = true := by rw [List.getD_eq_getElem?_getD, List.getElem?_eq_getElem h2] at h3; exact h3
      have : (a.take j).filter (fun y => !p y) = a.take j := by
        rw [List.filter_eq_self]
        intro y hy
        obtain ⟨i, hi⟩ := List.mem_iff_getElem?.1 hy
        have hlt : i < j := by have := (List.getElem?_eq_some_iff.1 hi).1; rw [List.length_take] at this; omega
        rw [List.getElem?_take_of_lt hlt] at hi
        have := h4 i hlt
        rw [List.getD_eq_getElem?_getD, hi] at this
        simpa using this
      rw [this]; simp [h3']
    obtain ⟨i', cur', o, q1, q2⟩ := delf_Relation_l1 a p (a.length - (j + 1)) j (j + 1) (((a.length : Int) - ((j : Int) + 1)).toNat + 1) a (Nat.le_refl _) (by omega) (Nat.le_refl _) (by omega) rfl e (fun q _ => rfl)
    rw [show ((j : Int) + 1) = ((j + 1 : Nat) : Int) by omega] at *
    simp only [LR.seq_go]
    rw [q1]
    simp only [Int.toNat_natCast, List.take_take, Nat.min_self]
    exact q2
  · rw [h1, if_pos rfl, List.filter_eq_self.2 (fun y hy => by rw [h2 y hy]; rfl)]
theorem delf_Relation_len (a : List (Int × Bool × Bool × Int × Int × Int)) (p : (Int × Bool × Bool × Int × Int × Int) → Bool) (r : List (Int × Bool × Bool × Int × Int × Int)) (e : r = k_25 a p) : r.length ≤ a.length := by
  rw [e, delf_Relation]; exact List.length_filter_le _ _
def k_2c (a0 : List (ZR)) (a1 : (ZR) → Bool) : Nat → (Int × Int × (List (ZR))) → Int × Int × (List (ZR))
  | 0, _ => default
  | ml1 + 1, sl1 => if sl1.2.1 < (a0.length : Int) then (if (!(a1 (sl1.2.2.getD sl1.2.1.toNat (((0, [], []) : ZR) : ZR)))) = true then (k_2c a0 a1 ml1 (((sl1.1 + 1), (sl1.2.1 + 1), (sl1.2.2.set sl1.1.toNat (sl1.2.2.getD sl1.2.1.toNat (((0, [], []) : ZR) : ZR)))))) else (k_2c a0 a1 ml1 ((sl1.1, (sl1.2.1 + 1), sl1.2.2)))) else ((sl1.1, sl1.2.1, sl1.2.2))
def k_37 (a0 : List (ZR)) (a1 : (ZR) → Bool) : (List (ZR)) :=
  if ((k_10 a0 a1) : Int) = (-1) then a0 else (LR.seq (k_2c a0 a1 (((a0.length : Int) - (((k_10 a0 a1) + 1))).toNat + 1) (((k_10 a0 a1), ((k_10 a0 a1) + 1), a0))) (fun ol1 => ((ol1.2.2.take (ol1.1).toNat).take ol1.1.toNat)))
theorem slices_DeleteFunc_Row_c (H : Heap) (va0 : Value) (a0 : List (ZR)) (c2 : Chunk) (d0 : OwnS rowE 47 H va0 a0 c2) (d1 : Value) (a1 : (ZR) → Bool) (ha1 : ∀ H', HLe H H' → ∀ (z0 : ZR) (d2 : Value) (hz0_1 : RdS (intE .u64) H' d2 z0.2.1) (d3 : Value) (hz0_2 : RdS (slE (intE .u64)) H' d3 z0.2.2), Fv Tryz.prog d1 [.agg #[.int .i64 z0.1, d2, d3]] H' (.bool (a1 z0))) (na1 : d1.oneCell' = true) (hl : a0.length ≤ 2000000) : Fc Tryz.prog (fnv 97) [va0, d1] H [c2] (fun v' H' L' => ∃ d9 e0, v' = d9 ∧ L' = [e0] ∧ OwnS rowE 47 H' d9 (k_37 a0 a1) e0) := by
 refine Fc.of_body (N := 42) func97 rfl kA rfl rfl ?_
 intro w0
 obtain ⟨b8, b6, rfl, ma0, na0⟩ := OwnS.shape d0
 refine sR (aA ?_)
 refine nN (sR (mA ?_))
 refine mA ?_
 refine R.callvB rfl rfl rfl (fun HB10 e1 qB10 => by have e2 := OwnS.read d0 e1 (In.all .hd qB10); exact (slices_IndexFunc_Row_c _ _ a0 e2 _ a1 (fun H' h' => ha1 H' (e1.trans h')) na1)) ?_
 refine aA ?_
 refine nN (T.seq (sR (mA ?_)))
 refine R.eql rfl rfl rfl ?_
 refine nN (T.condD rfl (fun c3 => ?_) (fun c3 => ?_))
 refine T.set 12 (.bool true) (congrArg Value.bool (decide_eq_true c3)) ?_
 refine sR (mA ?_)
 refine aA ?_
 refine nN (T.has (Has.cons .hd Has.nil) ?_)
 refine T.ret (Post.thnR ?_)
 have hM : k_37 a0 a1 = a0 := by rw [k_37, if_pos c3]
 exact fin1L (v := sl b8 a0 b6) [c2] rfl rfl (List.Sublist.refl _) ⟨sl b8 a0 b6, c2, by first | rw [hM] | rfl, rfl, by rw [hM]; exact d0⟩
 refine T.set 12 (.bool false) (congrArg Value.bool (decide_eq_false c3)) ?_
 refine T.skip (Post.thnN (T.seq ?_))
 refine T.seq ?_
 have hx := idxf_Row_rng a0 a1
 refine T.region (mA ?_)
 refine R.addI rfl rfl rfl oA ?_
 refine aA ?_
 refine nN (T.block (T.loop (ι := Nat × Int × Int × (List (ZR)) × Chunk) (fun ⟨b3, a3, a5, a4, b2⟩ H' L' ds' => ((a0.length : Int) - a5).toNat < b3 ∧ Has L' [b2] ∧ OwnS rowE 47 H' (.slice b8 a0.length b6) a4 b2 ∧ 0 ≤ a3 ∧ a3 + 1 ≤ a5 ∧ a5 ≤ (a0.length : Int) ∧ k_2c a0 a1 b3 ((a3, a5, a4)) = k_2c a0 a1 (((a0.length : Int) - (((k_10 a0 a1) + 1))).toNat + 1) (((k_10 a0 a1), ((k_10 a0 a1) + 1), a0))) (fun ⟨b3, a3, a5, a4, b2⟩ => [(0, .slice b8 a0.length b6), (1, d1), (5, .int .i64 a3), (6, .int .i64 a5)]) (fun ⟨b3, a3, a5, a4, b2⟩ => b3) ((((a0.length : Int) - (((k_10 a0 a1) + 1))).toNat + 1), (k_10 a0 a1), ((k_10 a0 a1) + 1), a0, c2) ?_ ?_ ?_))
 exact ⟨oA, (Has.cons .hd Has.nil), d0, bA, bA, bA, (by rfl)⟩
 exact ⟨rfl, rfl, rfl, rfl, trivial⟩
 intro ⟨b3, a3, a5, a4, b2⟩ σ_l1 H_l1 L_l1 ds_l1 c6 c1
 obtain ⟨hkl1, c1⟩ := c1
 obtain ⟨b9, rfl⟩ : ∃ m, b3 = m + 1 := ⟨b3 - 1, by omega⟩
 obtain ⟨hLl1, b1, hBl1_0, hBl1_1, hBl1_2, c7⟩ := c1
 have e5 := OwnS.len b1
 refine T.has hLl1 ?_
 refine T.seq (sR (mA ?_))
 refine mA ?_
 refine R.len underlying29 rfl rfl ?_
 refine R.lss rfl rfl rfl ?_
 refine nN (T.condD rfl (fun c0 => ?_) (fun c0 => ?_))
 refine T.set 19 (.bool true) (congrArg Value.bool (decide_eq_true c0)) ?_
 refine T.skip (Post.thnN (T.seq ?_))
 refine T.block (sR (mA ?_))
 refine mA ?_
 have c8 : a5.toNat < a0.length := bA
 obtain ⟨a2, e24, h24⟩ : ∃ y, y = (a4.getD a5.toNat (((0, [], []) : ZR) : ZR)) ∧ a4[a5.toNat]? = some y := ⟨_, rfl, k_46 (by first | exact c8 | simpa using c8 | (simp only [List.length_set]; omega) | omega | (rw [(k_26 _).length_eq]; exact c8))⟩
 obtain ⟨b24, u24, cs24, l24, f24, j24, i24, g24, k24⟩ := OwnS.elem b1 h24
 obtain ⟨z24_1, z24_2, rfl, b4, b5⟩ := g24
 obtain ⟨a7, a8, rfl, m24_1, n24_1, b4⟩ := b4.shape
 obtain ⟨a9, b0, rfl, m24_2, n24_2, b5⟩ := b5.shape
 refine R.ixp (sz := (rowE).size) underlying29 sizeOf47 rfl rfl rfl bA i24 ?_
 refine R.ldAt (l := [.int .i64 (a2.1), sl a7 a2.2.1 a8, sl a9 a2.2.2 b0]) isAgg47 sizeOf47 rfl rfl (by rw [← f24]; exact .hd) rfl (fun j u h => k24 j u h) ?_
 refine R.alloc zeroValue47 rfl ?_
 intro b7
 refine stY (l := [.int .i64 (a2.1), sl a7 a2.2.1 a8, sl a9 a2.2.2 b0]) (new := [.int .i64 (a2.1), sl a7 a2.2.1 a8, sl a9 a2.2.2 b0]) .hd sizeOf47 rfl rfl ?_
 refine TL.shut .hd ?_
 intro e3 a6 e4
 have d4 : e3 b7 = some (.cells #[.int .i64 (a2.1), .slice a7 a2.2.1.length a8, .slice a9 a2.2.2.length b0] 47) := shut1 e4
 refine nN (sR (mA ?_))
 refine R.ldXH (cs := [.int .i64 (a2.1), sl a7 a2.2.1 a8, sl a9 a2.2.2 b0]) (l := [.int .i64 (a2.1), sl a7 a2.2.1 a8, sl a9 a2.2.2 b0]) isAgg47 sizeOf47 rfl rfl d4 rfl rfl ?_
 refine R.callv rfl rfl rfl (ha1 _ (c6.trans a6) a2 _ (b4.mono a6) _ (b5.mono a6)) ?_
 refine R.not rfl rfl ?_
 refine nN (T.cond rfl (fun c4 => ?_) (fun c4 => ?_))
 refine T.set 29 (.bool true) (congrArg Value.bool c4) ?_
 refine sR (mA ?_)
 refine mA ?_
 refine R.ldXH (cs := [.int .i64 (a2.1), sl a7 a2.2.1 a8, sl a9 a2.2.2 b0]) (l := [.int .i64 (a2.1), sl a7 a2.2.1 a8, sl a9 a2.2.2 b0]) isAgg47 sizeOf47 rfl rfl d4 rfl rfl ?_
 have c9 : a3.toNat < a0.length := bA
 obtain ⟨y33, e33, h33⟩ : ∃ y, y = (a4.getD a3.toNat (((0, [], []) : ZR) : ZR)) ∧ a4[a3.toNat]? = some y := ⟨_, rfl, k_46 (by first | exact c9 | simpa using c9 | (simp only [List.length_set]; omega) | omega | (rw [(k_26 _).length_eq]; exact c9))⟩
 obtain ⟨b33, u33, cs33, l33, f33, j33, i33, g33, k33⟩ := OwnS.elem (OwnS.mono b1 a6) h33
 obtain ⟨z33_1, z33_2, rfl, d5, d6⟩ := g33
 obtain ⟨A33_1, p33_1, rfl, m33_1, n33_1, d5⟩ := d5.shape
 obtain ⟨A33_2, p33_2, rfl, m33_2, n33_2, d6⟩ := d6.shape
 refine R.ixp (sz := (rowE).size) underlying29 sizeOf47 rfl rfl rfl bA i33 ?_
 refine R.stEF (E := rowE) (e := 47) (v := (sl b8 a0 b6)) (m := [.int .i64 (a2.1), sl a7 a2.2.1 a8, sl a9 a2.2.2 b0]) (o := 0) (y := y33) (y' := a2) (j := a3.toNat) sizeOf47 rfl (OwnS.mono b1 a6) .hd i33 rfl rfl rfl (k_3 rfl) h33 (by show 0 + 3 ≤ 3; decide) (fun l hl => by rw [List.take_zero, List.drop_of_length_le (by rw [(rowE).len hl]; exact Nat.le_refl _)]; simp only [List.nil_append, List.append_nil]; exact ⟨_, _, rfl, (b4.mono a6), (b5.mono a6)⟩) ?_
 intro cst6 wst6
 refine nN (T.region (mA ?_))
 refine R.addI rfl rfl rfl oA ?_
 refine aA ?_
 refine TL.nil (Post.blkN ?_)
 refine id (Post.thnN (T.region ?_))
 refine mA ?_
 refine R.addI rfl rfl rfl oA ?_
 refine aA ?_
 refine nN ?_
 exact ⟨(b9, (a3 + 1), (a5 + 1), (a4.set a3.toNat a2), cst6), (c6.trans a6), ⟨(by first | omega | (simp; omega) | (simp at *; omega)), (Has.cons .hd Has.nil), wst6, bA, bA, bA, (by subst e33; subst e24; rw [← c7, k_2c]; rw [if_pos c0, if_t c4])⟩, by show b9 < b9 + 1; omega, rfl, rfl, rfl, rfl, trivial⟩
 refine T.set 29 (.bool false) (congrArg Value.bool c4) ?_
 refine T.skip (Post.blkN ?_)
 refine id (Post.thnN (T.region ?_))
 refine mA ?_
 refine R.addI rfl rfl rfl oA ?_
 refine aA ?_
 refine nN ?_
 exact ⟨(b9, a3, (a5 + 1), a4, b2), (c6.trans a6), ⟨(by first | omega | (simp; omega) | (simp at *; omega)), (Has.cons .hd Has.nil), (OwnS.mono b1 a6), bA, bA, bA, (by subst e24; rw [← c7, k_2c]; rw [if_pos c0, if_f c4])⟩, by show b9 < b9 + 1; omega, rfl, rfl, rfl, rfl, trivial⟩
 refine T.set 19 (.bool false) (congrArg Value.bool (decide_eq_false c0)) ?_
 refine T.exit (Post.thnE (Post.thnE (Post.blkX ?_)))
 have hEl1 : k_2c a0 a1 (((a0.length : Int) - (((k_10 a0 a1) + 1))).toNat + 1) (((k_10 a0 a1), ((k_10 a0 a1) + 1), a0)) = (a3, a5, a4) := (by rw [← c7, k_2c]; rw [if_neg c0])
 refine id (Post.thnN (sR ?_))
 refine mA ?_
 refine mA ?_
 refine R.sL underlying29 sizeOf47 rfl rfl rfl oA oA ?_
 obtain ⟨xz7, ez7⟩ : ∃ x, x = (a4.take (a3).toNat) := ⟨_, rfl⟩
 have tz7 : xz7.length = (a3).toNat := by rw [ez7, List.length_take]; (try simp only [List.length_set]); omega
 refine R.clr (dd := none) (xs := xz7) (A := b8) (cap := b6) Tryz_ty29 (zone_of (z := .agg #[.int .i64 0, .slice none 0 0, .slice none 0 0]) kA (by intro v hv; simp [Value.cells] at hv; rcases hv with rfl | rfl | rfl <;> rfl)) rfl (fun q h => by cases h) (m := a0.length) (by rw [tz7]; rfl) (by rw [tz7, ez7]; exact own_take0 (by have hz_ := b1; have hq_ := (OwnS.len b1); rw [hq_] at hz_; exact hz_) (by (try simp only [List.length_set]); omega)) .hd oA oA ?_
 intro cz7 wz7
 refine nN (sR (mA ?_))
 refine mA ?_
 have d7 := OwnS.takeM wz7 (i := a3.toNat) (m := b6) (by first | omega | (simp; omega)) (by first | omega | (simp; omega)) (by first | omega | (simp; omega))
 obtain ⟨c5, e41⟩ : ∃ x, x = (xz7.take a3.toNat) := ⟨_, rfl⟩
 rw [← e41] at d7
 obtain ⟨A41, p41, d8, m41, n41⟩ := OwnS.shape d7
 have t41 : c5.length = a3.toNat := by rw [e41, List.length_take]; omega
 refine R.sH underlying29 sizeOf47 rfl rfl rfl (by first | omega | (simp; omega)) (by first | omega | (simp; omega))  ?_
 refine TL.set 41 (.slice A41 c5.length p41) (by first | exact d8 | (rw [← d8]; simp; done) | (rw [← d8]; rfl)) ?_
 rw [d8] at d7
 refine aA ?_
 refine nN (T.has (Has.cons .hd Has.nil) ?_)
 refine T.ret ?_
 have hM : k_37 a0 a1 = c5 := by subst e41; subst ez7; rw [k_37, if_neg c3, hEl1, LR.seq_go]
 exact fin1L (v := sl A41 c5 p41) [cz7] rfl rfl (List.Sublist.refl _) ⟨sl A41 c5 p41, cz7, by first | rw [hM] | rfl, rfl, by rw [hM]; exact d7⟩
theorem delf_Row_l1 (a : List (ZR)) (p : (ZR) → Bool) : ∀ (r i j m : Nat) (cur : List (ZR)), a.length - j ≤ r → r < m → i + 1 ≤ j → j ≤ a.length → cur.length = a.length → cur.take i = (a.take j).filter (fun y => !p y) → (∀ q, j ≤ q → cur.getD q ((0, [], []) : ZR) = a.getD q ((0, [], []) : ZR)) →
    ∃ (i' : Nat) (cur' : List (ZR)) (o : Int), k_2c a p m ((i : Int), (j : Int), cur) = ((i' : Int), o, cur') ∧ cur'.take i' = a.filter (fun y => !p y)
  | r, i, j, 0, cur, _, h, _, _, _, _, _ => by omega
  | r, i, j, m + 1, cur, h1, h2, h3, h4, h5, h6, h7 => by
    rw [k_2c]
    dsimp only
    by_cases hj : j < a.length
    · rw [if_pos (show (j : Int) < (a.length : Int) by omega), Int.toNat_natCast, h7 j (Nat.le_refl _)]
      have hs : a.take (j + 1) = a.take j ++ [a.getD j ((0, [], []) : ZR)] := by rw [List.take_add_one, List.getD_eq_getElem?_getD, List.getElem?_eq_getElem hj]; rfl
      cases r with
      | zero => omega
      | succ r =>
        cases hp : p (a.getD j ((0, [], []) : ZR)) with
        | true =>
          rw [if_neg (by decide)]
          exact delf_Row_l1 a p r i (j + 1) m cur (by omega) (by omega) (by omega) (by omega) h5 (by rw [hs, List.filter_append, h6, show [a.getD j ((0, [], []) : ZR)].filter (fun y => !p y) = [] by rw [List.filter_cons, hp]; rfl, List.append_nil]) (fun q hq => h7 q (by omega))
        | false =>
          rw [if_pos (by decide), Int.toNat_natCast]
          refine delf_Row_l1 a p r (i + 1) (j + 1) m (cur.set i (a.getD j ((0, [], []) : ZR))) (by omega) (by omega) (by omega) (by omega) (by rw [List.length_set]; exact h5) ?_ (fun q hq => ?_)
          · rw [hs, List.filter_append, ← h6, List.take_add_one, List.take_set_of_le (Nat.le_refl _), List.getElem?_set_self (by omega), show [a.getD j ((0, [], []) : ZR)].filter (fun y => !p y) = [a.getD j ((0, [], []) : ZR)] by rw [List.filter_cons, hp]; rfl]; rfl
          · rw [List.getD_eq_getElem?_getD, List.getElem?_set_ne (by omega), ← List.getD_eq_getElem?_getD]; exact h7 q (by omega)
    · rw [if_neg (show ¬ (j : Int) < (a.length : Int) by omega)]
      exact ⟨i, cur, _, rfl, by rw [h6, List.take_of_length_le (by omega)]⟩
theorem delf_Row (a : List (ZR)) (p : (ZR) → Bool) : k_37 a p = a.filter (fun y => !p y) := by
  unfold k_37
  rcases idxf_Row a p with ⟨j, h1, h2, h3, h4⟩ | ⟨h1, h2⟩
  · rw [h1, if_neg (by omega)]
    have e : a.take j = (a.take (j + 1)).filter (fun y => !p y) := by
      rw [List.take_add_one, List.getElem?_eq_getElem h2, List.filter_append]
      have h3' : p a[j] = true := by rw [List.getD_eq_getElem?_getD, List.getElem?_eq_getElem h2] at h3; exact h3
      have : (a.take j).filter (fun y => !p y) = a.take j := by
        rw [List.filter_eq_self]
        intro y hy
        obtain ⟨i, hi⟩ := List.mem_iff_getElem?.1 hy
        have hlt : i < j := by have := (List.getElem?_eq_some_iff.1 hi).1; rw [List.length_take] at this; omega
        rw [List.getElem?_take_of_lt hlt] at hi
        have := h4 i hlt
        rw [List.getD_eq_getElem?_getD, hi] at this
        simpa using this
      rw [this]; simp [h3']
    obtain ⟨i', cur', o, q1, q2⟩ := delf_Row_l1 a p (a.length - (j + 1)) j (j + 1) (((a.length : Int) - ((j : Int) + 1)).toNat + 1) a (Nat.le_refl _) (by omega) (Nat.le_refl _) (by omega) rfl e (fun q _ => rfl)
    rw [show ((j : Int) + 1) = ((j + 1 : Nat) : Int) by omega] at *
    simp only [LR.seq_go]
    rw [q1]
    simp only [Int.toNat_natCast, List.take_take, Nat.min_self]
    exact q2
  · rw [h1, if_pos rfl, List.filter_eq_self.2 (fun y hy => by rw [h2 y hy]; rfl)]
theorem delf_Row_len (a : List (ZR)) (p : (ZR) → Bool) (r : List (ZR)) (e : r = k_37 a p) : r.length ≤ a.length := by
  rw [e, delf_Row]; exact List.length_filter_le _ _
end Go.SX
namespace Go.SX
open Go
theorem may_fact (s : Sta) (n : Int) (r : Int × Int) (e : r = k_7f s n) (hl : s.2.2.2.length ≤ 2000000) : r.2 = 0 → StOk s ∧ (k_1b s n).2 = true ∧ r.1 = (k_1b s n).1 ∧ 0 ≤ r.1 ∧ r.1 < (s.2.2.2.length : Int) ∧ n ≠ 1 ∧ n ≠ 2 := by
  subst e
  have hf := sfind_rng s n _ rfl hl
  unfold k_7f
  by_cases c : k_15 s = 0
  · rw [if_neg (fun h => h c)]
    simp only [LR.seq_go]
    generalize k_1b s n = q at *
    cases hq : q.2 with
    | false => intro h; simp at h
    | true =>
      rw [if_neg (by decide)]
      by_cases h1 : n = 1
      · intro h; simp [h1] at h
      · by_cases h2 : n = 2
        · intro h; simp [h2] at h
        · intro h
          simp only [h1, h2, decide_false, if_false, Bool.false_eq_true]
          exact ⟨(scheck_iff s).1.1 c, trivial, trivial, hf.1, hf.2.2 hq, h1, h2⟩
  · rw [if_pos c]
    intro h
    exact absurd h c
end Go.SX
namespace Go.SX
open Go Go.Proofs Go.Proofs.Tryz
end Go.SX
namespace Go.SX
open Go Go.Proofs Go.Proofs.Tryz
def k_a6 (q0 : List (Int × Bool)) (a0 : ZL) : Bool :=
  ((mlk q0 a0.1).getD false)
theorem state_Reap_1_c (H : Heap) (a1 : Nat) (mq0 : Nat) (q0 : List (Int × Bool)) (hq0 : MpR .i64 (fun z : Bool => Value.bool z) H mq0 q0) (hb0 : H a1 = some (.cells #[.map (some mq0)] 146)) (a0 : ZL) : Fv Tryz.prog (.func (.func 96) #[] ([.pointer (some ⟨a1, 0, none⟩)] : List Value).toArray) [.agg #[.int .i64 a0.1, .bool a0.2.1, .bool a0.2.2.1, .int .i64 a0.2.2.2.1, .int .i64 a0.2.2.2.2.1, .int .i64 a0.2.2.2.2.2]] H (.bool (k_a6 q0 a0)) := by
 refine Fc.of_body (N := 8) func96 rfl kA rfl rfl ?_
 intro w0
 refine sR (R.box rfl cA ?_)
 intro b2
 refine aA ?_
 refine TL.shut .hd ?_
 intro a3 a2 a4
 have a5 : a3 b2 = some (.cells #[.int .i64 (a0.1), .bool (a0.2.1), .bool (a0.2.2.1), .int .i64 (a0.2.2.2.1), .int .i64 (a0.2.2.2.2.1), .int .i64 (a0.2.2.2.2.2)] 55) := shut1 a4
 refine nN (sR (R.ldH isAgg146 rfl rfl (a2 _ _ hb0) rfl ?_))
 refine fA underlying55 rfl sizeOf3 ?_
 refine R.ldH isAgg3 rfl rfl a5 rfl ?_
 refine R.lkuVH (f := (fun z : Bool => Value.bool z)) (z0 := false) underlying146 underlying3 zeroValue4 rfl rfl rfl rfl (hq0.mono a2) ?_
 refine aA ?_
 refine nN (T.has Has.nil ?_)
 refine T.ret ?_
 have hM : k_a6 q0 a0 = ((mlk q0 a0.1).getD false) := by rw [k_a6]
 exact fin1L (v := .bool (((mlk q0 a0.1).getD false))) [] rfl rfl (List.Sublist.refl _) ⟨rfl, by first | rw [hM] | rfl⟩
def k_a7 (q0 : List (Int × Bool)) (a0 : ZR) : Bool :=
  ((mlk q0 a0.1).getD false)
theorem state_Reap_2_c (H : Heap) (a1 : Nat) (mq0 : Nat) (q0 : List (Int × Bool)) (hq0 : MpR .i64 (fun z : Bool => Value.bool z) H mq0 q0) (hb0 : H a1 = some (.cells #[.map (some mq0)] 146)) (a0 : ZR) (a2 : Value) (a3 : RdS (intE .u64) H a2 a0.2.1) (a4 : Value) (a5 : RdS (slE (intE .u64)) H a4 a0.2.2) : Fv Tryz.prog (.func (.func 98) #[] ([.pointer (some ⟨a1, 0, none⟩)] : List Value).toArray) [.agg #[.int .i64 a0.1, a2, a4]] H (.bool (k_a7 q0 a0)) := by
 refine Fc.of_body (N := 8) func98 rfl kA rfl rfl ?_
 intro w0
 obtain ⟨a7, a8, rfl, hca0_1, hda0_1, a3⟩ := a3.shape
 obtain ⟨a9, b0, rfl, hca0_2, hda0_2, a5⟩ := a5.shape
 refine sR (R.box rfl cA ?_)
 intro b2
 refine aA ?_
 refine TL.shut .hd ?_
 intro b1 a6 b3
 have b4 : b1 b2 = some (.cells #[.int .i64 (a0.1), .slice a7 a0.2.1.length a8, .slice a9 a0.2.2.length b0] 47) := shut1 b3
 refine nN (sR (R.ldH isAgg146 rfl rfl (a6 _ _ hb0) rfl ?_))
 refine fA underlying47 rfl sizeOf3 ?_
 refine R.ldH isAgg3 rfl rfl b4 rfl ?_
 refine R.lkuVH (f := (fun z : Bool => Value.bool z)) (z0 := false) underlying146 underlying3 zeroValue4 rfl rfl rfl rfl (hq0.mono a6) ?_
 refine aA ?_
 refine nN (T.has Has.nil ?_)
 refine T.ret ?_
 have hM : k_a7 q0 a0 = ((mlk q0 a0.1).getD false) := by rw [k_a7]
 exact fin1L (v := .bool (((mlk q0 a0.1).getD false))) [] rfl rfl (List.Sublist.refl _) ⟨rfl, by first | rw [hM] | rfl⟩
def k_92 (q0 : Int → Bool) (a0 : ZR) : (ZR) :=
  LR.seq (k_9a a0 q0) (fun r6 => r6)
theorem state_Reap_4_c (H : Heap) (b8 : Nat) (fq0 : Value) (q0 : Int → Bool) (hq0 : ∀ H', HLe H H' → ∀ (z0 : Int), Fv Tryz.prog fq0 [.int .u64 z0] H' (.bool (q0 z0))) (nq0 : fq0.oneCell' = true) (hb0 : H b8 = some (.cells #[fq0] 154)) (a0 : ZR) (b9 : Value) (a8 : RdS (intE .u64) H b9 a0.2.1) (c0 : Value) (a9 : RdS (slE (intE .u64)) H c0 a0.2.2) (hR : RowS a0) (hl : a0.2.2.length = a0.2.1.length) : Fc Tryz.prog (.func (.func 101) #[] ([.pointer (some ⟨b8, 0, none⟩)] : List Value).toArray) [.agg #[.int .i64 a0.1, b9, c0]] H [] (fun v' H' L' => ∃ c1 c2 c3 c4, v' = .agg #[.int .i64 (k_92 q0 a0).1, c1, c2] ∧ L' = [c3, c4] ∧ OwnS (intE .u64) 39 H' c1 (k_92 q0 a0).2.1 c3 ∧ OwnS (slE (intE .u64)) 64 H' c2 (k_92 q0 a0).2.2 c4) := by
 refine Fc.of_body (N := 7) func101 rfl kA rfl rfl ?_
 intro w0
 obtain ⟨b0, b1, rfl, hca0_1, hda0_1, a8⟩ := a8.shape
 obtain ⟨b4, b5, rfl, hca0_2, hda0_2, a9⟩ := a9.shape
 refine sR (R.box rfl cA ?_)
 intro b2
 refine R.alloc zeroValue47 rfl ?_
 intro b3
 refine TL.shut (.tl .hd) ?_
 intro c5 a5 c6
 have c7 : c5 b2 = some (.cells #[.int .i64 (a0.1), .slice b0 a0.2.1.length b1, .slice b4 a0.2.2.length b5] 47) := shut1 c6
 refine nN (sR (R.ldXH (cs := [.int .i64 (a0.1), .slice b0 a0.2.1.length b1, .slice b4 a0.2.2.length b5]) (l := [.int .i64 (a0.1), .slice b0 a0.2.1.length b1, .slice b4 a0.2.2.length b5]) isAgg47 sizeOf47 rfl rfl c7 rfl rfl ?_))
 refine R.ldH isAgg154 rfl rfl (a5 _ _ hb0) rfl ?_
 obtain ⟨r6, er6⟩ : ∃ r, r = (k_9a a0 q0) := ⟨_, rfl⟩
 refine TL.call [] rfl rfl rfl (state_without_c _ a0 _ (a8.mono a5) _ (a9.mono a5) _ q0 (fun H' h' => hq0 H' (a5.trans h')) nq0 hR hl) ?_
 intro v6 H6 L6 s6 q6
 rw [← er6] at q6
 obtain ⟨u6_0_1, u6_0_2, a6, a7, rfl, rfl, b6, b7⟩ := q6
 obtain ⟨a1, a2, rfl, m6_0_1, n6_0_1⟩ := OwnS.shape b6
 obtain ⟨a3, a4, rfl, m6_0_2, n6_0_2⟩ := OwnS.shape b7
 refine stY (l := [.int .i64 (r6.1), sl a1 r6.2.1 a2, sl a3 r6.2.2 a4]) (new := [.int .i64 (r6.1), sl a1 r6.2.1 a2, sl a3 r6.2.2 a4]) (.tl (.tl .hd)) sizeOf47 rfl rfl ?_
 refine nN (T.has (Has.cons .hd (Has.cons .hd (Has.cons .hd Has.nil))) ?_)
 refine T.ret ?_
 have hM : k_92 q0 a0 = r6 := by subst er6; rw [k_92, LR.seq_go]
 exact finR1 (v := .agg #[.int .i64 (r6.1), sl a1 r6.2.1 a2, sl a3 r6.2.2 a4]) [a6, a7] rfl (.cellA (cs := [.int .i64 (r6.1), sl a1 r6.2.1 a2, sl a3 r6.2.2 a4]) (l := [.int .i64 (r6.1), sl a1 r6.2.1 a2, sl a3 r6.2.2 a4]) isAgg47 sizeOf47 rfl (.tl (.tl .hd)) rfl rfl) (List.sublist_append_left ([a6, a7] : Own) _) ⟨sl a1 r6.2.1 a2, sl a3 r6.2.2 a4, a6, a7, by first | rw [hM] | rfl, rfl, by rw [hM]; exact b6, by rw [hM]; exact b7⟩
def k_73 (q0 : List (Int × Bool)) (a0 : Int) : Bool :=
  LR.seq (k_1 a0) (fun r8 => if ((kindG a0) : Int) = 3 then (if ((mlk q0 r8.1).getD false) = true then true else (((mlk q0 r8.2).getD false))) else false)
theorem state_Reap_3_c (H : Heap) (a1 : Nat) (mq0 : Nat) (q0 : List (Int × Bool)) (hq0 : MpR .i64 (fun z : Bool => Value.bool z) H mq0 q0) (hb0 : H a1 = some (.cells #[.map (some mq0)] 146)) (a0 : Int) : Fv Tryz.prog (.func (.func 99) #[] ([.pointer (some ⟨a1, 0, none⟩)] : List Value).toArray) [.int .u64 a0] H (.bool (k_73 q0 a0)) := by
 refine Fc.of_body (N := 24) func99 rfl kA rfl rfl ?_
 intro w0
 refine sR (aA ?_)
 refine nN (sR (mA ?_))
 obtain ⟨r8, a2⟩ : ∃ r, r = (k_1 a0) := ⟨_, rfl⟩
 refine R.callv (v := .tuple #[.int .i64 r8.1, .int .i64 r8.2]) rfl rfl rfl (by rw [a2]; exact k_57 _ (a0)) ?_
 refine mA ?_
 refine R.ext rfl rfl rfl ?_
 refine R.ext rfl rfl rfl ?_
 refine aA ?_
 refine aA ?_
 refine nN (sR (mA ?_))
 refine R.callv rfl rfl rfl (kindG_c _ a0) ?_
 refine R.eql rfl rfl rfl ?_
 refine mA ?_
 refine TL.gsplitD 14 rfl (fun a3 => ?_) (fun a3 => ?_)
 refine R.ldH isAgg146 rfl rfl hb0 rfl ?_
 refine mA ?_
 refine R.lkuVH (f := (fun z : Bool => Value.bool z)) (z0 := false) underlying146 underlying3 zeroValue4 rfl rfl rfl rfl hq0 ?_
 refine mA ?_
 refine TL.gsplit 18 rfl (fun g18 => ?_) (fun g18 => ?_)
 refine oF ?_
 refine oF ?_
 refine oF ?_
 refine R.pkTE rfl rfl cA ?_
 refine R.pkTE rfl rfl cA ?_
 refine aA ?_
 refine nN (T.has Has.nil ?_)
 refine T.ret ?_
 have hM : k_73 q0 a0 = true := by subst a2; rw [k_73, LR.seq_go, if_pos a3, if_t g18]
 exact fin1L (v := .bool true) [] rfl rfl (List.Sublist.refl _) ⟨rfl, by first | rw [hM] | rfl⟩
 refine R.ldH isAgg146 rfl rfl hb0 rfl ?_
 refine mA ?_
 refine R.lkuVH (f := (fun z : Bool => Value.bool z)) (z0 := false) underlying146 underlying3 zeroValue4 rfl rfl rfl rfl hq0 ?_
 refine R.pkFE rfl rfl cA ?_
 refine R.pkTE rfl rfl cA ?_
 refine aA ?_
 refine nN (T.has Has.nil ?_)
 refine T.ret ?_
 have hM : k_73 q0 a0 = ((mlk q0 r8.2).getD false) := by subst a2; rw [k_73, LR.seq_go, if_pos a3, if_f g18]
 exact fin1L (v := .bool (((mlk q0 r8.2).getD false))) [] rfl rfl (List.Sublist.refl _) ⟨rfl, by first | rw [hM] | rfl⟩
 refine oF ?_
 refine oF ?_
 refine oF ?_
 refine oF ?_
 refine TL.offU rfl rfl ?_
 refine TL.offU rfl rfl ?_
 refine TL.offU rfl rfl ?_
 refine oF ?_
 refine R.pkFE rfl rfl cA ?_
 refine aA ?_
 refine nN (T.has Has.nil ?_)
 refine T.ret ?_
 have hM : k_73 q0 a0 = false := by subst a2; rw [k_73, LR.seq_go, if_neg a3]
 exact fin1L (v := .bool false) [] rfl rfl (List.Sublist.refl _) ⟨rfl, by first | rw [hM] | rfl⟩
def k_94  : List Int → ((List (Int × Bool))) → LR ((ZS) × Int) ((List (Int × Bool)))
  | [], sl3 => .go sl3
  | yl3 :: ysl3, sl3 => if ((mlk sl3 yl3).getD false) = true then (.ret ((((((fun _ => 0) : W24), (0, [], []), [], []) : ZS), 2))) else (k_94 ysl3 ((mpu sl3 yl3 true)))
def k_93 (a0 : ZS) : List Int → ((List Int)) → LR ((ZS) × Int) ((List Int))
  | [], sl1 => .go sl1
  | yl1 :: ysl1, sl1 => LR.seq (alloc_At_m a0.2.1 yl1) (fun r35 => if (!r35.2) = true then (.ret ((((((fun _ => 0) : W24), (0, [], []), [], []) : ZS), 4))) else (k_93 a0 ysl1 ((sl1 ++ [r35.1]))))
def k_12 (a0 : ZS) (a1 : List Int) : (ZS) × Int :=
  if ((k_15 a0) : Int) ≠ 0 then ((((((fun _ => 0) : W24), (0, [], []), [], []) : ZS), (k_15 a0))) else (LR.on (k_93 a0 a1 []) (fun r => r) (fun ol1 => LR.seq (if 1 ∈ a1 then true else ((decide (2 ∈ a1))) : Bool) (fun sc2 => if sc2 = true then ((((((fun _ => 0) : W24), (0, [], []), [], []) : ZS), 291)) else (LR.on (k_94 a1 (([] : List (Int × Bool)))) (fun r => r) (fun ol3 => LR.seq (k_5c a0.2.1 ol1) (fun r70 => if r70.2 ≠ 0 then ((((((fun _ => 0) : W24), (0, [], []), [], []) : ZS), r70.2)) else (LR.seq (k_25 a0.2.2.1 ((fun z0 => k_a6 ol3 z0))) (fun r84 => LR.seq (k_37 a0.2.2.2 ((fun z0 => k_a7 ol3 z0))) (fun r89 => LR.seq (k_5d r89 ((fun z0 => k_92 ((fun z0 => k_73 ol3 z0)) z0))) (fun r95 => (((a0.1, (r70.1.1, r70.1.2.1, r70.1.2.2), r84, r95) : ZS), 0)))))))))))
theorem state_Reap_c (H : Heap) {tG0 : TypeId} (hG0 : gF H 0 tG0) {tG1 : TypeId} (hG1 : gA H 1 tG1) (a0 : ZS) (j7 : Value) (d5 : RdS slotE H j7 a0.2.1.2.1) (j8 : Value) (d6 : RdS (intE .i64) H j8 a0.2.1.2.2) (j9 : Value) (e8 : RdS relationE H j9 a0.2.2.1) (k0 : Value) (e9 : RdS rowE H k0 a0.2.2.2) (va1 : Value) (a1 : List Int) (h1 : RdS (intE .i64) H va1 a1) (hS : StS a0) (hn : a1.length ≤ 100) : Fc Tryz.prog (fnv 39) [.agg (c24 a0.1 [.int .i64 a0.2.1.1, j7, j8, j9, k0]).toArray, va1] H [] (fun v' H' L' => ∃ l4 l5 l6 l7 l8 l9, v' = .tuple #[.agg (c24 (k_12 a0 a1).1.1 [.int .i64 (k_12 a0 a1).1.2.1.1, l4, l5, l6, l7]).toArray, .int .i64 (k_12 a0 a1).2] ∧ L' = [l8, l9] ∧ RdS slotE H' l4 (k_12 a0 a1).1.2.1.2.1 ∧ RdS (intE .i64) H' l5 (k_12 a0 a1).1.2.1.2.2 ∧ OwnS relationE 55 H' l6 (k_12 a0 a1).1.2.2.1 l8 ∧ OwnS rowE 47 H' l7 (k_12 a0 a1).1.2.2.2 l9) := by
 refine Fc.of_body (N := 98) func39 rfl kA rfl rfl ?_
 intro w0
 obtain ⟨c1, c2, rfl, p9, q0, d5⟩ := d5.shape
 obtain ⟨c3, c4, rfl, q1, q2, d6⟩ := d6.shape
 obtain ⟨c6, c7, rfl, q3, q4, e8⟩ := e8.shape
 obtain ⟨c8, c9, rfl, q5, q6, e9⟩ := e9.shape
 obtain ⟨m0, m1, rfl, hca1, hda1, h1⟩ := h1.shape
 have hs5 := hS.ids
 have hs1 := hS.slots
 have hs2 := hS.free
 have hs3 := hS.rels
 have hs4 := hS.rows
 refine sR (R.box rfl cA ?_)
 intro b2
 refine R.alloc zeroValue31 rfl ?_
 intro b4
 refine aA ?_
 refine nN (T.seq (sR (R.ldX (cs := (c24 a0.1 [.int .i64 (a0.2.1.1), .slice c1 a0.2.1.2.1.length c2, .slice c3 a0.2.1.2.2.length c4, .slice c6 a0.2.2.1.length c7, .slice c8 a0.2.2.2.length c9])) (l := (c24 a0.1 [.int .i64 (a0.2.1.1), .slice c1 a0.2.1.2.1.length c2, .slice c3 a0.2.1.2.2.length c4, .slice c6 a0.2.2.1.length c7, .slice c8 a0.2.2.2.length c9])) isAgg31 sizeOf31 rfl rfl (.tl .hd) rfl rfl ?_)))
 refine R.callv rfl rfl rfl (k_9d _ hG0 hG1 a0 _ d5 _ d6 _ e8 _ e9 (by assumption)) ?_
 refine aA ?_
 refine nN (sR (mA ?_))
 refine R.neq rfl rfl rfl ?_
 refine nN (T.condD rfl (fun f0 => ?_) (fun f0 => ?_))
 refine T.set 21 (.bool true) (congrArg Value.bool (decide_eq_true f0)) ?_
 refine sR (R.bld (cs := zSt) rfl (fun _ => by kernel_rfl) ?_)
 refine mA ?_
 refine stY (l := zSt) (new := zSt) .hd sizeOf31 rfl rfl ?_
 refine aA ?_
 refine nN (T.has (Has.none (Has.none (Has.cons .hd Has.nil))) ?_)
 refine T.ret (Post.thnR ?_)
 have hM : k_12 a0 a1 = (((((fun _ => 0) : W24), (0, [], []), [], []) : ZS), (k_15 a0)) := by rw [k_12, if_pos f0]
 exact finR2 (v := .agg zSt.toArray) (v' := .int .i64 (k_15 a0)) [[], []] rfl (.cellA (cs := zSt) (l := zSt) isAgg31 sizeOf31 rfl (.tl (.tl .hd)) rfl rfl) (.tmp rfl) (List.sublist_append_left ([[], []] : Own) _) ⟨.slice none 0 0, .slice none 0 0, .slice none 0 0, .slice none 0 0, [], [], by first | rw [hM] | rfl, rfl, by rw [hM]; exact RdS.nil, by rw [hM]; exact RdS.nil, by rw [hM]; exact OwnS.nil, by rw [hM]; exact OwnS.nil⟩
 refine T.set 21 (.bool false) (congrArg Value.bool (decide_eq_false f0)) ?_
 have hok := (scheck_iff a0).1.1 oA
 refine T.skip (Post.thnN (sR ?_))
 refine R.mkmV .i64 (fun z : Bool => Value.bool z) rfl ?_
 intro h3 w24
 refine R.alloc zeroValue146 rfl ?_
 intro b7
 refine stY (l := [.map (some h3)]) (new := [.map (some h3)]) .hd sizeOf146 rfl (cells1 rfl) ?_
 refine TL.shut .hd ?_
 intro n9 c0 o0
 have f1 : n9 b7 = some (.cells #[.map (some h3)] 146) := shut1 o0
 refine nN (sR (aA ?_))
 refine nN (T.seq (sR (mA ?_)))
 refine R.len underlying25 rfl rfl ?_
 refine mA ?_
 refine nN (T.block (T.loop (ι := Nat × Value × (List Int) × Chunk) (fun ⟨d4, f7, d0, e5⟩ H' L' ds' => d4 ≤ a1.length ∧ Has L' [[(h3, .map #[] 0)], [(b4, .cells zSt.toArray 31)], [(b2, .cells (c24 a0.1 [.int .i64 (a0.2.1.1), .slice c1 a0.2.1.2.1.length c2, .slice c3 a0.2.1.2.2.length c4, .slice c6 a0.2.2.1.length c7, .slice c8 a0.2.2.2.length c9]).toArray 31)], e5] ∧ OwnS (intE .u64) 39 H' f7 d0 e5 ∧ d0.length ≤ d4 ∧ k_93 a0 (a1.drop d4) d0 = k_93 a0 a1 []) (fun ⟨d4, f7, d0, e5⟩ => [(27, .int .i64 (d4 : Int)), (1, .slice m0 a1.length m1), (2, .pointer (some ⟨b2, 0, none⟩)), (4, .pointer (some ⟨b4, 0, none⟩)), (7, .pointer (some ⟨b7, 0, none⟩)), (8, f7), (25, .slice m0 a1.length m1), (26, .int .i64 (a1.length : Int))]) (fun ⟨d4, f7, d0, e5⟩ => a1.length - d4) (0, .slice none 0 0, [], []) ?_ ?_ ?_))
 exact ⟨oA, (Has.cons .hd (Has.cons .hd (Has.cons .hd (Has.none Has.nil)))), OwnS.nil, bA, (by rfl)⟩
 exact ⟨rfl, rfl, rfl, rfl, rfl, rfl, rfl, rfl, trivial⟩
 intro ⟨d4, f7, d0, e5⟩ σ_l1 H_l1 L_l1 ds_l1 b3 i2
 obtain ⟨hkl1, i2⟩ := i2
 obtain ⟨hLl1, k6, hBl1_0, k7⟩ := i2
 obtain ⟨m6, m7, rfl, m8l1, n8l1_⟩ := OwnS.shape k6
 refine T.has hLl1 ?_
 refine sR (R.lss rfl rfl rfl ?_)
 refine nN (T.seq (T.condD rfl (fun c28 => ?_) (fun c28 => ?_)))
 have hltl1 : d4 < a1.length := by omega
 obtain ⟨yl1, k8⟩ := getk (xs := a1) (k := d4) oA
 refine T.skip (Post.thnN (T.seq ?_))
 refine T.block (sR ?_)
 obtain ⟨b29, o29, i29, k29⟩ := RdS.elem (h1.mono (c0.trans b3)) k8
 obtain ⟨l29, g29, k29⟩ := k29
 obtain rfl : l29 = [.int .i64 yl1] := g29
 refine R.ixp underlying25 sizeOf3 rfl rfl rfl oA i29 ?_
 refine R.ldC isAgg3 rfl rfl (k29 0 _ rfl) ?_
 refine aA ?_
 refine nN (sR (fA underlying31 rfl sizeOf27 ?_))
 refine R.ldX (cs := (c24 a0.1 [.int .i64 (a0.2.1.1), sl c1 a0.2.1.2.1 c2, sl c3 a0.2.1.2.2 c4, sl c6 a0.2.2.1 c7, sl c8 a0.2.2.2 c9])) (l := [.int .i64 (a0.2.1.1), sl c1 a0.2.1.2.1 c2, sl c3 a0.2.1.2.2 c4]) isAgg27 sizeOf27 rfl rfl (.tl (.tl .hd)) rfl rfl ?_
 refine mA ?_
 obtain ⟨f8, k9⟩ : ∃ r, r = (alloc_At_m a0.2.1 yl1) := ⟨_, rfl⟩
 refine R.callv (v := .tuple #[.int .u64 f8.1, .bool f8.2]) rfl rfl rfl (by rw [k9]; exact alloc_At_c _ ((c0.trans b3) _ _ hG1) a0.2.1 _ (d5.mono (c0.trans b3)) _ (d6.mono (c0.trans b3)) (yl1) bA bA) ?_
 refine mA ?_
 refine R.ext rfl rfl rfl ?_
 refine R.ext rfl rfl rfl ?_
 refine aA ?_
 refine aA ?_
 refine nN (T.seq (sR (mA ?_)))
 refine R.not rfl rfl ?_
 refine nN (T.cond rfl (fun k1 => ?_) (fun k1 => ?_))
 refine T.set 39 (.bool true) (congrArg Value.bool k1) ?_
 refine sR (R.bld (cs := zSt) rfl (fun _ => by kernel_rfl) ?_)
 refine stY (l := zSt) (new := zSt) (.tl .hd) sizeOf31 rfl rfl ?_
 refine aA ?_
 refine nN (T.has (Has.none (Has.none (Has.cons (.tl .hd) Has.nil))) ?_)
 refine T.ret (Post.thnR (Post.blkR (Post.thnR (Post.thnR (Post.blkR (Post.thnR ?_))))))
 have hXl1 : k_93 a0 a1 [] = .ret ((((((fun _ => 0) : W24), (0, [], []), [], []) : ZS), 4)) := by subst k9; rw [← k7, k_8 k8, k_93]; rw [LR.seq_go, if_t k1]
 have hM : k_12 a0 a1 = (((((fun _ => 0) : W24), (0, [], []), [], []) : ZS), 4) := by rw [k_12, if_neg f0, hXl1, LR.on_ret]
 exact finR2 (v := .agg zSt.toArray) (v' := .int .i64 4) [[], []] rfl (.cellA (cs := zSt) (l := zSt) isAgg31 sizeOf31 rfl (.tl (.tl .hd)) rfl rfl) (.tmp rfl) (List.sublist_append_left ([[], []] : Own) _) ⟨.slice none 0 0, .slice none 0 0, .slice none 0 0, .slice none 0 0, [], [], by first | rw [hM] | rfl, rfl, by rw [hM]; exact RdS.nil, by rw [hM]; exact RdS.nil, by rw [hM]; exact OwnS.nil, by rw [hM]; exact OwnS.nil⟩
 refine T.set 39 (.bool false) (congrArg Value.bool k1) ?_
 refine T.skip (Post.thnN (T.region ?_))
 refine mA ?_
 refine mA ?_
 refine R.bs rfl (k_4 underlying44 sizeOf39 zeroValue39 rfl rfl) ?_
 intro b43
 have w43 := lit1 (E := (intE .u64)) (e := 39) (H := H_l1) (b := b43) (y := f8.1) (a := [.int .u64 (f8.1)]) rfl
 obtain ⟨k44, y44, r44⟩ := Src.ownA w43
 refine R.app (E := (intE .u64)) (e := 39) (xs := d0) (ys := [f8.1]) k_2b rfl rfl rfl k6 (.tl (.tl (.tl (.tl .hd)))) (r44 _ .hd) y44 lA lA ?_
 intro v44 c44 w44
 obtain ⟨A44, p44, rfl, m44, n44⟩ := OwnS.shape w44
 refine TL.del (.tl .hd) ?_
 refine aA ?_
 refine TL.nil (Post.blkN ?_)
 refine id (Post.thnN (T.region ?_))
 refine R.addI rfl rfl rfl oA ?_
 refine mA ?_
 refine nN ?_
 exact ⟨(d4 + 1, sl A44 (d0 ++ [f8.1]) p44, (d0 ++ [f8.1]), c44), b3, ⟨oA, (Has.cons (.tl .hd) (Has.cons (.tl .hd) (Has.cons (.tl .hd) (Has.cons .hd Has.nil)))), w44, bA, (by subst k9; rw [← k7, k_8 k8, k_93]; rw [LR.seq_go, if_f k1])⟩, by show a1.length - (d4 + 1) < a1.length - d4; omega, rfl, rfl, rfl, rfl, rfl, rfl, rfl, rfl, trivial⟩
 refine T.exit (Post.thnE (Post.thnE (Post.blkX ?_)))
 have i3 : k_93 a0 a1 [] = .go d0 := (k7.symm.trans (by rw [show d4 = a1.length by omega, List.drop_length, k_93]))
 refine id (Post.thnN (T.seq ?_))
 refine T.seq (T.cutK (ι := Bool) (fun f6 H' L' ds' => Has L' [[(h3, .map #[] 0)], [(b4, .cells zSt.toArray 31)], [(b2, .cells (c24 a0.1 [.int .i64 (a0.2.1.1), .slice c1 a0.2.1.2.1.length c2, .slice c3 a0.2.1.2.2.length c4, .slice c6 a0.2.2.1.length c7, .slice c8 a0.2.2.2.length c9]).toArray 31)], e5] ∧ (if 1 ∈ a1 then true else ((decide (2 ∈ a1))) : Bool) = f6) (fun f6 => [(1, .slice m0 a1.length m1), (2, .pointer (some ⟨b2, 0, none⟩)), (4, .pointer (some ⟨b4, 0, none⟩)), (7, .pointer (some ⟨b7, 0, none⟩)), (8, .slice m6 d0.length m7), (51, .bool (f6))]) ?_ ?_)
 refine T.region (mA ?_)
 refine R.callv rfl rfl rfl (slices_Contains_int_d _ _ a1 (h1.mono (c0.trans b3)) 1) ?_
 refine mA ?_
 refine TL.gsplitD 48 rfl (fun g48 => ?_) (fun g48 => ?_)
 refine oF ?_
 refine oF ?_
 refine R.pkTE rfl rfl cA ?_
 refine nN ?_
 exact ⟨true, HLe.refl _, ⟨(Has.cons .hd (Has.cons .hd (Has.cons .hd (Has.cons .hd Has.nil)))), (by rw [if_pos g48])⟩, rfl, rfl, rfl, rfl, rfl, rfl, trivial⟩
 refine mA ?_
 refine R.callv rfl rfl rfl (slices_Contains_int_d _ _ a1 (h1.mono (c0.trans b3)) 2) ?_
 refine R.pkFE rfl rfl cA ?_
 refine nN ?_
 exact ⟨(decide (2 ∈ a1)), HLe.refl _, ⟨(Has.cons .hd (Has.cons .hd (Has.cons .hd (Has.cons .hd Has.nil)))), (by rw [if_neg g48])⟩, rfl, rfl, rfl, rfl, rfl, rfl, trivial⟩
 intro f6 σ_c2 H_c2 L_c2 ds_c2 d1 o1
 obtain ⟨hLc2, f3⟩ := o1
 refine T.has hLc2 ?_
 refine T.cond rfl (fun f2 => ?_) (fun f2 => ?_)
 refine T.set 51 (.bool true) (congrArg Value.bool f2) ?_
 have l0 := f3.trans f2
 try simp only [or_f, or_t, and_f, and_t, decide_eq_true_eq, decide_eq_false_iff_not, Bool.not_eq_true'] at l0
 refine sR (R.bld (cs := zSt) rfl (fun _ => by kernel_rfl) ?_)
 refine stY (l := zSt) (new := zSt) (.tl .hd) sizeOf31 rfl rfl ?_
 refine aA ?_
 refine nN (T.has (Has.none (Has.none (Has.cons (.tl .hd) Has.nil))) ?_)
 refine T.ret (Post.thnR ?_)
 have hM : k_12 a0 a1 = (((((fun _ => 0) : W24), (0, [], []), [], []) : ZS), 291) := by rw [k_12, if_neg f0, i3, LR.on_go, f3, LR.seq_go, if_t f2]
 exact finR2 (v := .agg zSt.toArray) (v' := .int .i64 291) [[], []] rfl (.cellA (cs := zSt) (l := zSt) isAgg31 sizeOf31 rfl (.tl (.tl .hd)) rfl rfl) (.tmp rfl) (List.sublist_append_left ([[], []] : Own) _) ⟨.slice none 0 0, .slice none 0 0, .slice none 0 0, .slice none 0 0, [], [], by first | rw [hM] | rfl, rfl, by rw [hM]; exact RdS.nil, by rw [hM]; exact RdS.nil, by rw [hM]; exact OwnS.nil, by rw [hM]; exact OwnS.nil⟩
 refine T.set 51 (.bool false) (congrArg Value.bool f2) ?_
 have l0 := f3.trans f2
 try simp only [or_f, or_t, and_f, and_t, decide_eq_true_eq, decide_eq_false_iff_not, Bool.not_eq_true'] at l0
 refine T.skip (Post.thnN (T.seq ?_))
 refine sR (mA ?_)
 refine R.len underlying25 rfl rfl ?_
 refine mA ?_
 refine nN (T.block (T.loop (ι := Nat × (List (Int × Bool)) × (Array MapEntry) × Nat) (fun ⟨d7, a7, d8, e4⟩ H' L' ds' => d7 ≤ a1.length ∧ Has L' [[(h3, .map d8 e4)], [(b4, .cells zSt.toArray 31)], [(b2, .cells (c24 a0.1 [.int .i64 (a0.2.1.1), .slice c1 a0.2.1.2.1.length c2, .slice c3 a0.2.1.2.2.length c4, .slice c6 a0.2.2.1.length c7, .slice c8 a0.2.2.2.length c9]).toArray 31)], e5] ∧ MapV .i64 (fun z : Bool => Value.bool z) d8 a7 ∧ k_94 (a1.drop d7) a7 = k_94 a1 (([] : List (Int × Bool)))) (fun ⟨d7, a7, d8, e4⟩ => [(55, .int .i64 (d7 : Int)), (2, .pointer (some ⟨b2, 0, none⟩)), (4, .pointer (some ⟨b4, 0, none⟩)), (7, .pointer (some ⟨b7, 0, none⟩)), (8, .slice m6 d0.length m7), (53, .slice m0 a1.length m1), (54, .int .i64 (a1.length : Int))]) (fun ⟨d7, a7, d8, e4⟩ => a1.length - d7) (0, ([] : List (Int × Bool)), #[], 0) ?_ ?_ ?_))
 exact ⟨oA, (Has.cons .hd (Has.cons .hd (Has.cons .hd (Has.cons .hd Has.nil)))), w24, (by rfl)⟩
 exact ⟨rfl, rfl, rfl, rfl, rfl, rfl, rfl, trivial⟩
 intro ⟨d7, a7, d8, e4⟩ σ_l3 H_l3 L_l3 ds_l3 c5 i4
 obtain ⟨hkl3, i4⟩ := i4
 obtain ⟨hLl3, f9, l1⟩ := i4
 refine T.has hLl3 ?_
 refine sR (R.lss rfl rfl rfl ?_)
 refine nN (T.seq (T.condD rfl (fun c56 => ?_) (fun c56 => ?_)))
 have hltl3 : d7 < a1.length := by omega
 obtain ⟨yl3, l2⟩ := getk (xs := a1) (k := d7) oA
 refine T.skip (Post.thnN (T.seq ?_))
 refine T.block (sR ?_)
 obtain ⟨b57, o57, i57, k57⟩ := RdS.elem (h1.mono (c0.trans (b3.trans (d1.trans c5)))) l2
 obtain ⟨l57, g57, k57⟩ := k57
 obtain rfl : l57 = [.int .i64 yl3] := g57
 refine R.ixp underlying25 sizeOf3 rfl rfl rfl oA i57 ?_
 refine R.ldC isAgg3 rfl rfl (k57 0 _ rfl) ?_
 refine aA ?_
 refine nN (T.seq (sR (R.ldH isAgg146 rfl rfl ((b3.trans (d1.trans c5)) _ _ f1) rfl ?_)))
 refine mA ?_
 refine R.lkuV (f := (fun z : Bool => Value.bool z)) (z0 := false) underlying146 underlying3 zeroValue4 rfl rfl rfl rfl .hd f9 ?_
 refine nN (T.cond rfl (fun k2 => ?_) (fun k2 => ?_))
 refine T.set 61 (.bool true) (congrArg Value.bool k2) ?_
 refine sR (R.bld (cs := zSt) rfl (fun _ => by kernel_rfl) ?_)
 refine stY (l := zSt) (new := zSt) (.tl .hd) sizeOf31 rfl rfl ?_
 refine aA ?_
 refine nN (T.has (Has.none (Has.none (Has.cons (.tl .hd) Has.nil))) ?_)
 refine T.ret (Post.thnR (Post.blkR (Post.thnR (Post.thnR (Post.blkR (Post.thnR ?_))))))
 have hXl3 : k_94 a1 (([] : List (Int × Bool))) = .ret ((((((fun _ => 0) : W24), (0, [], []), [], []) : ZS), 2)) := by rw [← l1, k_8 l2, k_94]; rw [if_t k2]
 have hM : k_12 a0 a1 = (((((fun _ => 0) : W24), (0, [], []), [], []) : ZS), 2) := by rw [k_12, if_neg f0, i3, LR.on_go, f3, LR.seq_go, if_f f2, hXl3, LR.on_ret]
 exact finR2 (v := .agg zSt.toArray) (v' := .int .i64 2) [[], []] rfl (.cellA (cs := zSt) (l := zSt) isAgg31 sizeOf31 rfl (.tl (.tl .hd)) rfl rfl) (.tmp rfl) (List.sublist_append_left ([[], []] : Own) _) ⟨.slice none 0 0, .slice none 0 0, .slice none 0 0, .slice none 0 0, [], [], by first | rw [hM] | rfl, rfl, by rw [hM]; exact RdS.nil, by rw [hM]; exact RdS.nil, by rw [hM]; exact OwnS.nil, by rw [hM]; exact OwnS.nil⟩
 refine T.set 61 (.bool false) (congrArg Value.bool k2) ?_
 refine T.skip (Post.thnN (T.region ?_))
 refine R.ldH isAgg146 rfl rfl ((b3.trans (d1.trans c5)) _ _ f1) rfl ?_
 refine mA ?_
 refine R.mupV (f := (fun z : Bool => Value.bool z)) (v := true) underlying146 underlying3 rfl rfl rfl rfl .hd f9 ?_
 intro m2 m3 m8
 refine TL.nil (Post.blkN ?_)
 refine id (Post.thnN (T.region ?_))
 refine R.addI rfl rfl rfl oA ?_
 refine mA ?_
 refine nN ?_
 exact ⟨(d7 + 1, (mpu a7 yl3 true), m2, m3), c5, ⟨oA, (Has.cons .hd (Has.cons .hd (Has.cons .hd (Has.cons .hd Has.nil)))), m8, (by rw [← l1, k_8 l2, k_94]; rw [if_f k2])⟩, by show a1.length - (d7 + 1) < a1.length - d7; omega, rfl, rfl, rfl, rfl, rfl, rfl, rfl, trivial⟩
 refine T.exit (Post.thnE (Post.thnE (Post.blkX ?_)))
 have m9 : k_94 a1 (([] : List (Int × Bool))) = .go a7 := (l1.symm.trans (by rw [show d7 = a1.length by omega, List.drop_length, k_94]))
 refine id (Post.thnN (sR ?_))
 refine fA underlying31 rfl sizeOf27 ?_
 refine R.ldX (cs := (c24 a0.1 [.int .i64 (a0.2.1.1), sl c1 a0.2.1.2.1 c2, sl c3 a0.2.1.2.2 c4, sl c6 a0.2.2.1 c7, sl c8 a0.2.2.2 c9])) (l := [.int .i64 (a0.2.1.1), sl c1 a0.2.1.2.1 c2, sl c3 a0.2.1.2.2 c4]) isAgg27 sizeOf27 rfl rfl (.tl (.tl .hd)) rfl rfl ?_
 refine mA ?_
 refine TL.shut (.tl (.tl (.tl .hd))) ?_
 intro q7 b5 m4
 have m5 := OwnS.read (OwnS.mono k6 (d1.trans c5)) b5 m4
 obtain ⟨a2, i5⟩ : ∃ r, r = (k_5c a0.2.1 d0) := ⟨_, rfl⟩
 refine TL.call [] rfl rfl rfl (alloc_Give_c _ ((c0.trans (b3.trans (d1.trans (c5.trans b5)))) _ _ hG1) a0.2.1 _ (d5.mono (c0.trans (b3.trans (d1.trans (c5.trans b5))))) _ (d6.mono (c0.trans (b3.trans (d1.trans (c5.trans b5))))) _ d0 m5 bA bA bA) ?_
 intro v70 H70 L70 g0 q70
 rw [← i5] at q70
 obtain ⟨q8, q9, r0, r1, rfl, rfl, h4, h5⟩ := q70
 obtain ⟨a3, a4, rfl, r2, r3⟩ := OwnS.shape h4
 obtain ⟨a5, a6, rfl, r4, r5⟩ := OwnS.shape h5
 have tt70 : a2.1.2.1.length ≤ 1100000 ∧ a2.1.2.2.length ≤ 1100000 := by rw [i5]; exact give_len bA bA bA
 refine mA ?_
 refine R.ext rfl rfl rfl ?_
 refine R.ext rfl rfl rfl ?_
 refine R.alloc zeroValue27 rfl ?_
 intro b15
 refine stY (l := [.int .i64 (a2.1.1), sl a3 a2.1.2.1 a4, sl a5 a2.1.2.2 a6]) (new := [.int .i64 (a2.1.1), sl a3 a2.1.2.1 a4, sl a5 a2.1.2.2 a6]) .hd sizeOf27 rfl rfl ?_
 refine aA ?_
 refine TL.shut (.tl .hd) ?_
 intro o2 a8 i6
 have i7 := OwnS.read h4 a8 i6
 refine TL.shut (.tl .hd) ?_
 intro o3 a9 i8
 have i9 := OwnS.read (OwnS.mono h5 a8) a9 i8
 refine TL.shut .hd ?_
 intro n0 d2 n1
 have n2 : n0 b15 = some (.cells #[.int .i64 (a2.1.1), .slice a3 a2.1.2.1.length a4, .slice a5 a2.1.2.2.length a6] 27) := shut1 n1
 refine nN (T.seq (sR (mA ?_)))
 refine R.neq rfl rfl rfl ?_
 refine nN (T.condD rfl (fun k3 => ?_) (fun k3 => ?_))
 refine T.set 74 (.bool true) (congrArg Value.bool (decide_eq_true k3)) ?_
 refine sR (R.bld (cs := zSt) rfl (fun _ => by kernel_rfl) ?_)
 refine mA ?_
 refine stY (l := zSt) (new := zSt) (.tl .hd) sizeOf31 rfl rfl ?_
 refine aA ?_
 refine nN (T.has (Has.none (Has.none (Has.cons (.tl .hd) Has.nil))) ?_)
 refine T.ret (Post.thnR ?_)
 have hM : k_12 a0 a1 = (((((fun _ => 0) : W24), (0, [], []), [], []) : ZS), a2.2) := by subst i5; rw [k_12, if_neg f0, i3, LR.on_go, f3, LR.seq_go, if_f f2, m9, LR.on_go, LR.seq_go, if_pos k3]
 exact finR2 (v := .agg zSt.toArray) (v' := .int .i64 (a2.2)) [[], []] rfl (.cellA (cs := zSt) (l := zSt) isAgg31 sizeOf31 rfl (.tl (.tl .hd)) rfl rfl) (.tmp rfl) (List.sublist_append_left ([[], []] : Own) _) ⟨.slice none 0 0, .slice none 0 0, .slice none 0 0, .slice none 0 0, [], [], by first | rw [hM] | rfl, rfl, by rw [hM]; exact RdS.nil, by rw [hM]; exact RdS.nil, by rw [hM]; exact OwnS.nil, by rw [hM]; exact OwnS.nil⟩
 refine T.set 74 (.bool false) (congrArg Value.bool (decide_eq_false k3)) ?_
 refine T.skip (Post.thnN (sR ?_))
 refine R.ldX (cs := (c24 a0.1 [.int .i64 (a0.2.1.1), sl c1 a0.2.1.2.1 c2, sl c3 a0.2.1.2.2 c4, sl c6 a0.2.2.1 c7, sl c8 a0.2.2.2 c9])) (l := (c24 a0.1 [.int .i64 (a0.2.1.1), sl c1 a0.2.1.2.1 c2, sl c3 a0.2.1.2.2 c4, sl c6 a0.2.2.1 c7, sl c8 a0.2.2.2 c9])) isAgg31 sizeOf31 rfl rfl (.tl (.tl .hd)) rfl rfl ?_
 refine TL.call [] rfl rfl rfl (state_own_i _ a0 _ (d5.mono (c0.trans (b3.trans (d1.trans (c5.trans (b5.trans (g0.trans (a8.trans (a9.trans d2))))))))) _ (d6.mono (c0.trans (b3.trans (d1.trans (c5.trans (b5.trans (g0.trans (a8.trans (a9.trans d2))))))))) _ (e8.mono (c0.trans (b3.trans (d1.trans (c5.trans (b5.trans (g0.trans (a8.trans (a9.trans d2))))))))) _ (e9.mono (c0.trans (b3.trans (d1.trans (c5.trans (b5.trans (g0.trans (a8.trans (a9.trans d2))))))))) (by assumption)) ?_
 intro v78 H78 L78 h6 q78
 obtain ⟨o5, o6, o7, o8, o9, p0, rfl, rfl, g1, g2, g3, g4⟩ := q78
 obtain ⟨g5, g6, rfl, p1, p2, g1⟩ := RdS.shape g1
 obtain ⟨g7, g8, rfl, p3, p4, g2⟩ := RdS.shape g2
 obtain ⟨e6, e7, rfl, p5, p6⟩ := OwnS.shape g3
 obtain ⟨e1, e2, rfl, p7, p8⟩ := OwnS.shape g4
 refine stY (l := (c24 a0.1 [.int .i64 (a0.2.1.1), sl g5 a0.2.1.2.1 g6, sl g7 a0.2.1.2.2 g8, sl e6 a0.2.2.1 e7, sl e1 a0.2.2.2 e2])) (new := (c24 a0.1 [.int .i64 (a0.2.1.1), sl g5 a0.2.1.2.1 g6, sl g7 a0.2.1.2.2 g8, sl e6 a0.2.2.1 e7, sl e1 a0.2.2.2 e2])) (.tl (.tl (.tl (.tl .hd)))) sizeOf31 rfl rfl ?_
 refine nN (sR (R.ldXH (cs := [.int .i64 (a2.1.1), .slice a3 a2.1.2.1.length a4, .slice a5 a2.1.2.2.length a6]) (l := [.int .i64 (a2.1.1), .slice a3 a2.1.2.1.length a4, .slice a5 a2.1.2.2.length a6]) isAgg27 sizeOf27 rfl rfl (h6 _ _ n2) rfl rfl ?_))
 refine fA underlying31 rfl sizeOf27 ?_
 refine stY (l := [.int .i64 (a2.1.1), sl a3 a2.1.2.1 a4, sl a5 a2.1.2.2 a6]) (new := (c24 a0.1 [.int .i64 (a2.1.1), sl a3 a2.1.2.1 a4, sl a5 a2.1.2.2 a6, sl e6 a0.2.2.1 e7, sl e1 a0.2.2.2 e2])) (.tl (.tl (.tl (.tl .hd)))) sizeOf27 rfl rfl ?_
 refine nN (sR (fA underlying31 rfl sizeOf28 ?_))
 refine R.ld isAgg28 rfl rfl (.tl (.tl (.tl (.tl .hd)))) rfl ?_
 refine R.mkf (cs := [_]) rfl rfl ?_
 refine TL.shut (.tl (.tl .hd)) ?_
 intro HF24_6 d3 n3
 have g9 := MpR.of f9 n3
 refine TL.has (Has.cons .hd (Has.cons .hd (Has.cons .hd (Has.cons .hd Has.nil)))) ?_
 obtain ⟨d9, l3⟩ : ∃ r, r = (k_25 a0.2.2.1 ((fun z0 => k_a6 a7 z0))) := ⟨_, rfl⟩
 refine TL.call [true] rfl rfl rfl (slices_DeleteFunc_Relation_c _ _ a0.2.2.1 _ (OwnS.mono g3 d3) _ (fun z0 => k_a6 a7 z0) (fun H2 h2 z0 => state_Reap_1_c H2 b7 _ a7 (g9.mono h2) (h2 _ _ ((b3.trans (d1.trans (c5.trans (b5.trans (g0.trans (a8.trans (a9.trans (d2.trans (h6.trans d3))))))))) _ _ f1)) z0) rfl bA) ?_
 intro v84 H84 L84 h0 q84
 rw [← l3] at q84
 obtain ⟨r6, f4, rfl, rfl, h7⟩ := q84
 obtain ⟨b0, b1, rfl, r7, r8⟩ := OwnS.shape h7
 have td84 := delf_Relation_len _ _ _ l3
 refine fA underlying31 rfl sizeOf28 ?_
 refine stY (l := [sl b0 d9 b1]) (new := (c24 a0.1 [.int .i64 (a2.1.1), sl a3 a2.1.2.1 a4, sl a5 a2.1.2.2 a6, sl b0 d9 b1, sl e1 a0.2.2.2 e2])) (.tl (.tl (.tl .hd))) sizeOf28 rfl (cells1 rfl) ?_
 refine nN (sR (fA underlying31 rfl sizeOf29 ?_))
 refine R.ld isAgg29 rfl rfl (.tl (.tl (.tl .hd))) rfl ?_
 refine R.mkf (cs := [_]) rfl rfl ?_
 refine TL.has (Has.cons (.tl .hd) (Has.cons .hd (Has.cons .hd (Has.cons .hd Has.nil)))) ?_
 obtain ⟨k4, j0⟩ : ∃ r, r = (k_37 a0.2.2.2 ((fun z0 => k_a7 a7 z0))) := ⟨_, rfl⟩
 refine TL.call [true] rfl rfl rfl (slices_DeleteFunc_Row_c _ _ a0.2.2.2 _ (OwnS.mono g4 (d3.trans h0)) _ (fun z0 => k_a7 a7 z0) (fun H2 h2 z0 j1 j2 j3 j4 => state_Reap_2_c H2 b7 _ a7 ((g9.mono h0).mono h2) (h2 _ _ ((b3.trans (d1.trans (c5.trans (b5.trans (g0.trans (a8.trans (a9.trans (d2.trans (h6.trans (d3.trans h0)))))))))) _ _ f1)) z0 j1 j2 j3 j4) rfl bA) ?_
 intro v89 H89 L89 k5 q89
 rw [← j0] at q89
 obtain ⟨r9, s0, rfl, rfl, h8⟩ := q89
 obtain ⟨h9, i0, rfl, s1, s2⟩ := OwnS.shape h8
 have td89 := delf_Row_len _ _ _ j0
 have hrm : ∀ z ∈ k4, RowS z ∧ z.2.2.length = z.2.1.length := fun z hz => by
   rw [j0, delf_Row] at hz
   have hz2 := (List.mem_filter.1 hz).1
   exact ⟨hS.row z hz2, (hok.row z hz2).l⟩
 refine fA underlying31 rfl sizeOf29 ?_
 refine stY (l := [sl h9 k4 i0]) (new := (c24 a0.1 [.int .i64 (a2.1.1), sl a3 a2.1.2.1 a4, sl a5 a2.1.2.2 a6, sl b0 d9 b1, sl h9 k4 i0])) (.tl (.tl (.tl .hd))) sizeOf29 rfl (cells1 rfl) ?_
 refine nN (sR (R.mkf (cs := [_]) rfl rfl ?_))
 refine R.alloc zeroValue154 rfl ?_
 intro b17
 refine stY (l := [.func (.func 99) #[] ([.pointer (some ⟨b7, 0, none⟩)] : List Value).toArray]) (new := [.func (.func 99) #[] ([.pointer (some ⟨b7, 0, none⟩)] : List Value).toArray]) .hd sizeOf154 rfl (cells1 rfl) ?_
 refine TL.shut .hd ?_
 intro n4 e0 n5
 have n6 : n4 b17 = some (.cells #[.func (.func 99) #[] ([.pointer (some ⟨b7, 0, none⟩)] : List Value).toArray] 154) := shut1 n5
 refine nN (sR (fA underlying31 rfl sizeOf29 ?_))
 refine R.ld isAgg29 rfl rfl (.tl (.tl (.tl .hd))) rfl ?_
 refine R.mkf (cs := [_]) rfl rfl ?_
 refine TL.shut .hd ?_
 intro o4 b6 j5
 have j6 := OwnS.read (OwnS.mono h8 e0) b6 j5
 obtain ⟨e3, n7⟩ : ∃ r, r = (k_5d k4 ((fun z0 => k_92 ((fun z0 => k_73 a7 z0)) z0))) := ⟨_, rfl⟩
 refine TL.call [] rfl rfl rfl (state_each_Row_c _ _ k4 j6 _ (fun z0 => k_92 ((fun z0 => k_73 a7 z0)) z0) (fun H2 h2 z0 j1 j2 j3 j4 hpre => Fc.toFp (state_Reap_4_c H2 b17 _ (fun z0 => k_73 a7 z0) (fun H2_2 n8 z0 => state_Reap_3_c H2_2 b7 _ a7 ((g9.mono (h0.trans (k5.trans (e0.trans b6)))).mono (h2.trans n8)) ((h2.trans n8) _ _ ((b3.trans (d1.trans (c5.trans (b5.trans (g0.trans (a8.trans (a9.trans (d2.trans (h6.trans (d3.trans (h0.trans (k5.trans (e0.trans b6))))))))))))) _ _ f1)) z0) rfl (h2 _ _ (b6 _ _ n6)) z0 j1 j2 j3 j4 (by first | exact hS.row _ hpre | exact (hrm _ hpre).1 | exact (hrm _ hpre).2) (by first | exact hS.row _ hpre | exact (hrm _ hpre).1 | exact (hrm _ hpre).2)) (fun v_ H_ L_ x_ H3_ l_ k_ => by obtain ⟨u0_1, u0_2, c0_1, c0_2, rfl, rfl, w0_1, w0_2⟩ := x_; exact ⟨_, _, rfl, w0_1.read l_ (fun q_ m_ => k_ q_ (by simp [m_])), w0_2.read l_ (fun q_ m_ => k_ q_ (by simp [m_]))⟩)) rfl bA) ?_
 intro v95 H95 L95 s95 q95
 rw [← n7] at q95
 obtain ⟨s3, f5, rfl, rfl, i1⟩ := q95
 obtain ⟨b8, b9, rfl, s4, s5⟩ := OwnS.shape i1
 refine fA underlying31 rfl sizeOf29 ?_
 refine stY (l := [sl b8 e3 b9]) (new := (c24 a0.1 [.int .i64 (a2.1.1), sl a3 a2.1.2.1 a4, sl a5 a2.1.2.2 a6, sl b0 d9 b1, sl b8 e3 b9])) (.tl (.tl (.tl .hd))) sizeOf29 rfl (cells1 rfl) ?_
 refine nN (sR (R.ldX (cs := (c24 a0.1 [.int .i64 (a2.1.1), .slice a3 a2.1.2.1.length a4, .slice a5 a2.1.2.2.length a6, .slice b0 d9.length b1, .slice b8 e3.length b9])) (l := (c24 a0.1 [.int .i64 (a2.1.1), .slice a3 a2.1.2.1.length a4, .slice a5 a2.1.2.2.length a6, .slice b0 d9.length b1, .slice b8 e3.length b9])) isAgg31 sizeOf31 rfl rfl (.tl (.tl (.tl .hd))) rfl rfl ?_))
 refine stY (l := (c24 a0.1 [.int .i64 (a2.1.1), sl a3 a2.1.2.1 a4, sl a5 a2.1.2.2 a6, sl b0 d9 b1, sl b8 e3 b9])) (new := (c24 a0.1 [.int .i64 (a2.1.1), sl a3 a2.1.2.1 a4, sl a5 a2.1.2.2 a6, sl b0 d9 b1, sl b8 e3 b9])) (.tl (.tl .hd)) sizeOf31 rfl rfl ?_
 refine aA ?_
 refine nN (T.has (Has.cons (.tl .hd) (Has.cons .hd (Has.cons .hd Has.nil))) ?_)
 refine T.ret ?_
 have hM : k_12 a0 a1 = (((a0.1, (a2.1.1, a2.1.2.1, a2.1.2.2), d9, e3) : ZS), 0) := by subst n7; subst j0; subst l3; subst i5; rw [k_12, if_neg f0, i3, LR.on_go, f3, LR.seq_go, if_f f2, m9, LR.on_go, LR.seq_go, if_neg k3, LR.seq_go, LR.seq_go, LR.seq_go]
 exact finR2 (v := .agg (c24 a0.1 [.int .i64 (a2.1.1), sl a3 a2.1.2.1 a4, sl a5 a2.1.2.2 a6, sl b0 d9 b1, sl b8 e3 b9]).toArray) (v' := .int .i64 0) [f4, f5] rfl (.cellA (cs := (c24 a0.1 [.int .i64 (a2.1.1), sl a3 a2.1.2.1 a4, sl a5 a2.1.2.2 a6, sl b0 d9 b1, sl b8 e3 b9])) (l := (c24 a0.1 [.int .i64 (a2.1.1), sl a3 a2.1.2.1 a4, sl a5 a2.1.2.2 a6, sl b0 d9 b1, sl b8 e3 b9])) isAgg31 sizeOf31 rfl (.tl (.tl .hd)) rfl rfl) (.tmp rfl) (List.sublist_append_left ([f4, f5] : Own) _) ⟨sl a3 a2.1.2.1 a4, sl a5 a2.1.2.2 a6, sl b0 d9 b1, sl b8 e3 b9, f4, f5, by first | rw [hM] | rfl, rfl, by rw [hM]; exact (i7.mono (a9.trans (d2.trans (h6.trans (d3.trans (h0.trans (k5.trans (e0.trans (b6.trans s95))))))))), by rw [hM]; exact (i9.mono (d2.trans (h6.trans (d3.trans (h0.trans (k5.trans (e0.trans (b6.trans s95)))))))), by rw [hM]; exact (OwnS.mono h7 (k5.trans (e0.trans (b6.trans s95)))), by rw [hM]; exact i1⟩
end Go.SX
namespace Go.SX
open Go Go.Proofs Go.Proofs.Tryz
def k_d (a0 : ZS) (a1 : Int) (a2 : Int) (a3 : List Int) : (ZS) × Int :=
  LR.seq (k_7f a0 a1) (fun r25 => if r25.2 ≠ 0 then ((((((fun _ => 0) : W24), (0, [], []), [], []) : ZS), r25.2)) else (LR.seq (k_28 a0.2.2.1 a0.1 a2) (fun r38 => if r38.2 ≠ 0 then ((((((fun _ => 0) : W24), (0, [], []), [], []) : ZS), r38.2)) else (LR.seq (k_1 a2) (fun r47 => LR.on (if ((kindG a2) : Int) = 3 then (LR.seq (k_1b a0 r47.2) (fun r56 => if (!r56.2) = true then (.ret ((((((fun _ => 0) : W24), (0, [], []), [], []) : ZS), 122))) else (.go ()))) else (.go ()) : LR ((ZS) × Int) (Unit)) (fun r => r) (fun sc1 => if (a3.length : Int) ≠ r38.1 then ((((((fun _ => 0) : W24), (0, [], []), [], []) : ZS), 140)) else (LR.seq (k_13 (a0.2.2.2.getD r25.1.toNat (((0, [], []) : ZR) : ZR)).2.1 a2) (fun r79 => if r79.2 = true then ((((a0.1, (a0.2.1.1, a0.2.1.2.1, a0.2.1.2.2), a0.2.2.1, (a0.2.2.2.set r25.1.toNat (((a0.2.2.2.getD r25.1.toNat (((0, [], []) : ZR) : ZR)).1, (a0.2.2.2.getD r25.1.toNat (((0, [], []) : ZR) : ZR)).2.1, ((a0.2.2.2.getD r25.1.toNat (((0, [], []) : ZR) : ZR)).2.2.set r79.1.toNat a3))))) : ZS), 0)) else (LR.seq ((k_7d a0 (a0.2.2.2.getD r25.1.toNat (((0, [], []) : ZR) : ZR)) a2) : Int) (fun sc2 => if sc2 ≠ 0 then ((((((fun _ => 0) : W24), (0, [], []), [], []) : ZS), sc2)) else (LR.seq (k_74 (a0.2.2.2.getD r25.1.toNat (((0, [], []) : ZR) : ZR)).2.1 a2) (fun r108 => if r108.2 ≠ 0 then ((((((fun _ => 0) : W24), (0, [], []), [], []) : ZS), r108.2)) else ((((a0.1, (a0.2.1.1, a0.2.1.2.1, a0.2.1.2.2), a0.2.2.1, (a0.2.2.2.set r25.1.toNat (((a0.2.2.2.getD r25.1.toNat (((0, [], []) : ZR) : ZR)).1, r108.1, ((a0.2.2.2.getD r25.1.toNat (((0, [], []) : ZR) : ZR)).2.2.take r79.1.toNat ++ a3 :: (a0.2.2.2.getD r25.1.toNat (((0, [], []) : ZR) : ZR)).2.2.drop r79.1.toNat))))) : ZS), 0))))))))))))))
theorem k_b3 (H : Heap) {tG0 : TypeId} (p8 : gF H 0 tG0) {tG1 : TypeId} (hG1 : gA H 1 tG1) (a0 : ZS) (n9 : Value) (h8 : RdS slotE H n9 a0.2.1.2.1) (o0 : Value) (h9 : RdS (intE .i64) H o0 a0.2.1.2.2) (o1 : Value) (g9 : RdS relationE H o1 a0.2.2.1) (o2 : Value) (i0 : RdS rowE H o2 a0.2.2.2) (a1 : Int) (a2 : Int) (va3 : Value) (a3 : List Int) (n3 : RdS (intE .u64) H va3 a3) (hS : StS a0) (hv : a3.length ≤ 1000) : Fp Tryz.prog (fnv 45) [.agg (c24 a0.1 [.int .i64 a0.2.1.1, n9, o0, o1, o2]).toArray, .int .i64 a1, .int .u64 a2, va3] H (fun v' H' => ∃ p9 q0 q1 q2, v' = .tuple #[.agg (c24 (k_d a0 a1 a2 a3).1.1 [.int .i64 (k_d a0 a1 a2 a3).1.2.1.1, p9, q0, q1, q2]).toArray, .int .i64 (k_d a0 a1 a2 a3).2] ∧ RdS slotE H' p9 (k_d a0 a1 a2 a3).1.2.1.2.1 ∧ RdS (intE .i64) H' q0 (k_d a0 a1 a2 a3).1.2.1.2.2 ∧ RdS relationE H' q1 (k_d a0 a1 a2 a3).1.2.2.1 ∧ RdS rowE H' q2 (k_d a0 a1 a2 a3).1.2.2.2) := by
 refine Fc.of_body (N := 132) func45 rfl kA rfl rfl ?_
 intro w0
 obtain ⟨f3, f4, rfl, x4, x5, h8⟩ := h8.shape
 obtain ⟨f5, f6, rfl, x6, x7, h9⟩ := h9.shape
 obtain ⟨f7, f8, rfl, x8, x9, g9⟩ := g9.shape
 obtain ⟨f9, g0, rfl, y0, y1, i0⟩ := i0.shape
 obtain ⟨Aa3, ca3, rfl, hca3, hda3, n3⟩ := n3.shape
 have hs5 := hS.ids
 have hs1 := hS.slots
 have hs2 := hS.free
 have hs3 := hS.rels
 have hs4 := hS.rows
 refine sR (R.box rfl cA ?_)
 intro b4
 refine R.alloc zeroValue31 rfl ?_
 intro b8
 refine aA ?_
 refine nN (sR (R.ldX (cs := (c24 a0.1 [.int .i64 (a0.2.1.1), .slice f3 a0.2.1.2.1.length f4, .slice f5 a0.2.1.2.2.length f6, .slice f7 a0.2.2.1.length f8, .slice f9 a0.2.2.2.length g0])) (l := (c24 a0.1 [.int .i64 (a0.2.1.1), .slice f3 a0.2.1.2.1.length f4, .slice f5 a0.2.1.2.2.length f6, .slice f7 a0.2.2.1.length f8, .slice f9 a0.2.2.2.length g0])) isAgg31 sizeOf31 rfl rfl (.tl .hd) rfl rfl ?_))
 refine mA ?_
 obtain ⟨c2, e6⟩ : ∃ r, r = (k_7f a0 a1) := ⟨_, rfl⟩
 refine R.callv (v := .tuple #[.int .i64 c2.1, .int .i64 c2.2]) rfl rfl rfl (by rw [e6]; exact state_may_c _ p8 hG1 a0 _ h8 _ h9 _ g9 _ i0 (a1) (by assumption)) ?_
 have tm25 := may_fact _ _ _ e6 bA
 refine mA ?_
 refine R.ext rfl rfl rfl ?_
 refine R.ext rfl rfl rfl ?_
 refine aA ?_
 refine aA ?_
 refine nN (T.seq (sR (mA ?_)))
 refine R.neq rfl rfl rfl ?_
 refine nN (T.condD rfl (fun g6 => ?_) (fun g6 => ?_))
 refine T.set 29 (.bool true) (congrArg Value.bool (decide_eq_true g6)) ?_
 refine sR (R.bld (cs := zSt) rfl (fun _ => by kernel_rfl) ?_)
 refine mA ?_
 refine stY (l := zSt) (new := zSt) .hd sizeOf31 rfl rfl ?_
 refine aA ?_
 refine nN (T.has (Has.cons .hd Has.nil) ?_)
 refine T.ret (Post.thnR ?_)
 have hM : k_d a0 a1 a2 a3 = (((((fun _ => 0) : W24), (0, [], []), [], []) : ZS), c2.2) := by subst e6; rw [k_d, LR.seq_go, if_pos g6]
 exact finR2 (v := .agg zSt.toArray) (v' := .int .i64 (c2.2)) [] rfl (.cellA (cs := zSt) (l := zSt) isAgg31 sizeOf31 rfl .hd rfl rfl) (.tmp rfl) (List.sublist_append_left ([] : Own) _) ⟨rfl, .slice none 0 0, .slice none 0 0, .slice none 0 0, .slice none 0 0, by first | rw [hM] | rfl, by rw [hM]; exact RdS.nil, by rw [hM]; exact RdS.nil, by rw [hM]; exact RdS.nil, by rw [hM]; exact RdS.nil⟩
 refine T.set 29 (.bool false) (congrArg Value.bool (decide_eq_false g6)) ?_
 obtain ⟨hok, hfd, hfe, hi0, hi1, hn1, hn2⟩ := tm25 oA
 refine T.skip (Post.thnN (sR ?_))
 refine fA underlying31 rfl sizeOf28 ?_
 refine R.ld isAgg28 rfl rfl (.tl .hd) rfl ?_
 refine fA underlying31 rfl sizeOf23 ?_
 refine R.ldX (cs := (c24 a0.1 [.int .i64 (a0.2.1.1), sl f3 a0.2.1.2.1 f4, sl f5 a0.2.1.2.2 f6, sl f7 a0.2.2.1 f8, sl f9 a0.2.2.2 g0])) (l := (c24 a0.1 [])) isAgg23 sizeOf23 rfl rfl (.tl .hd) rfl rfl ?_
 refine mA ?_
 obtain ⟨o3, g3⟩ : ∃ r, r = (k_28 a0.2.2.1 a0.1 a2) := ⟨_, rfl⟩
 refine R.callv (v := .tuple #[.int .i64 o3.1, .int .i64 o3.2]) rfl rfl rfl (by rw [g3]; exact trait_Width_c _ p8 _ a0.2.2.1 g9 a0.1 (a2) bA) ?_
 refine mA ?_
 refine R.ext rfl rfl rfl ?_
 refine R.ext rfl rfl rfl ?_
 refine aA ?_
 refine aA ?_
 refine nN (T.seq (sR (mA ?_)))
 refine R.neq rfl rfl rfl ?_
 refine nN (T.condD rfl (fun h0 => ?_) (fun h0 => ?_))
 refine T.set 42 (.bool true) (congrArg Value.bool (decide_eq_true h0)) ?_
 refine sR (R.bld (cs := zSt) rfl (fun _ => by kernel_rfl) ?_)
 refine mA ?_
 refine stY (l := zSt) (new := zSt) .hd sizeOf31 rfl rfl ?_
 refine aA ?_
 refine nN (T.has (Has.cons .hd Has.nil) ?_)
 refine T.ret (Post.thnR ?_)
 have hM : k_d a0 a1 a2 a3 = (((((fun _ => 0) : W24), (0, [], []), [], []) : ZS), o3.2) := by subst g3; subst e6; rw [k_d, LR.seq_go, if_neg g6, LR.seq_go, if_pos h0]
 exact finR2 (v := .agg zSt.toArray) (v' := .int .i64 (o3.2)) [] rfl (.cellA (cs := zSt) (l := zSt) isAgg31 sizeOf31 rfl .hd rfl rfl) (.tmp rfl) (List.sublist_append_left ([] : Own) _) ⟨rfl, .slice none 0 0, .slice none 0 0, .slice none 0 0, .slice none 0 0, by first | rw [hM] | rfl, by rw [hM]; exact RdS.nil, by rw [hM]; exact RdS.nil, by rw [hM]; exact RdS.nil, by rw [hM]; exact RdS.nil⟩
 refine T.set 42 (.bool false) (congrArg Value.bool (decide_eq_false h0)) ?_
 refine T.skip (Post.thnN (T.seq ?_))
 refine sR (mA ?_)
 obtain ⟨o4, g7⟩ : ∃ r, r = (k_1 a2) := ⟨_, rfl⟩
 refine R.callv (v := .tuple #[.int .i64 o4.1, .int .i64 o4.2]) rfl rfl rfl (by rw [g7]; exact k_57 _ (a2)) ?_
 refine mA ?_
 refine R.ext rfl rfl rfl ?_
 refine R.ext rfl rfl rfl ?_
 refine aA ?_
 refine aA ?_
 refine nN (sR (mA ?_))
 refine R.callv rfl rfl rfl (kindG_c _ a2) ?_
 refine R.eql rfl rfl rfl ?_
 refine nN (T.cutK (ι := Unit) (fun _ H' L' ds' => Has L' [[(b8, .cells zSt.toArray 31)], [(b4, .cells (c24 a0.1 [.int .i64 (a0.2.1.1), .slice f3 a0.2.1.2.1.length f4, .slice f5 a0.2.1.2.2.length f6, .slice f7 a0.2.2.1.length f8, .slice f9 a0.2.2.2.length g0]).toArray 31)]] ∧ (if ((kindG a2) : Int) = 3 then (LR.seq (k_1b a0 o4.2) (fun q3 => if (!q3.2) = true then (.ret ((((((fun _ => 0) : W24), (0, [], []), [], []) : ZS), 122))) else (.go ()))) else (.go ()) : LR ((ZS) × Int) (Unit)) = .go ()) (fun _ => [(2, .int .u64 a2), (3, .slice Aa3 a3.length ca3), (4, .pointer (some ⟨b4, 0, none⟩)), (8, .pointer (some ⟨b8, 0, none⟩)), (10, .int .i64 (c2.1)), (12, .int .i64 (o3.1))]) ?_ ?_)
 refine T.condD rfl (fun n4 => ?_) (fun n4 => ?_)
 refine T.set 52 (.bool true) (congrArg Value.bool (decide_eq_true n4)) ?_
 refine sR (R.ldX (cs := (c24 a0.1 [.int .i64 (a0.2.1.1), .slice f3 a0.2.1.2.1.length f4, .slice f5 a0.2.1.2.2.length f6, .slice f7 a0.2.2.1.length f8, .slice f9 a0.2.2.2.length g0])) (l := (c24 a0.1 [.int .i64 (a0.2.1.1), .slice f3 a0.2.1.2.1.length f4, .slice f5 a0.2.1.2.2.length f6, .slice f7 a0.2.2.1.length f8, .slice f9 a0.2.2.2.length g0])) isAgg31 sizeOf31 rfl rfl (.tl .hd) rfl rfl ?_)
 refine mA ?_
 obtain ⟨q3, n6⟩ : ∃ r, r = (k_1b a0 o4.2) := ⟨_, rfl⟩
 refine R.callv (v := .tuple #[.int .i64 q3.1, .bool q3.2]) rfl rfl rfl (by rw [n6]; exact state_find_c _ a0 _ h8 _ h9 _ g9 _ i0 (o4.2) bA) ?_
 have tf56 := sfind_rng _ _ _ n6 bA
 refine mA ?_
 refine R.ext rfl rfl rfl ?_
 refine R.ext rfl rfl rfl ?_
 refine aA ?_
 refine aA ?_
 refine nN (sR (mA ?_))
 refine R.not rfl rfl ?_
 refine nN (T.cond rfl (fun o5 => ?_) (fun o5 => ?_))
 refine T.set 60 (.bool true) (congrArg Value.bool o5) ?_
 refine sR (R.bld (cs := zSt) rfl (fun _ => by kernel_rfl) ?_)
 refine stY (l := zSt) (new := zSt) .hd sizeOf31 rfl rfl ?_
 refine aA ?_
 refine nN (T.has (Has.cons .hd Has.nil) ?_)
 refine T.ret (Post.thnR ?_)
 have hM : k_d a0 a1 a2 a3 = (((((fun _ => 0) : W24), (0, [], []), [], []) : ZS), 122) := by subst n6; subst g7; subst g3; subst e6; rw [k_d, LR.seq_go, if_neg g6, LR.seq_go, if_neg h0, LR.seq_go, if_pos n4, LR.seq_go, if_t o5, LR.on_ret]
 exact finR2 (v := .agg zSt.toArray) (v' := .int .i64 122) [] rfl (.cellA (cs := zSt) (l := zSt) isAgg31 sizeOf31 rfl .hd rfl rfl) (.tmp rfl) (List.sublist_append_left ([] : Own) _) ⟨rfl, .slice none 0 0, .slice none 0 0, .slice none 0 0, .slice none 0 0, by first | rw [hM] | rfl, by rw [hM]; exact RdS.nil, by rw [hM]; exact RdS.nil, by rw [hM]; exact RdS.nil, by rw [hM]; exact RdS.nil⟩
 refine T.set 60 (.bool false) (congrArg Value.bool o5) ?_
 refine T.skip (Post.thnN ?_)
 exact ⟨(), HLe.refl _, ⟨(Has.cons .hd (Has.cons .hd Has.nil)), (by subst n6; rw [if_pos n4, LR.seq_go, if_f o5])⟩, rfl, rfl, rfl, rfl, rfl, rfl, trivial⟩
 refine T.set 52 (.bool false) (congrArg Value.bool (decide_eq_false n4)) ?_
 refine T.skip (Post.thnN ?_)
 exact ⟨(), HLe.refl _, ⟨(Has.cons .hd (Has.cons .hd Has.nil)), (by rw [if_neg n4])⟩, rfl, rfl, rfl, rfl, rfl, rfl, trivial⟩
 intro _ σ_c1 H_c1 L_c1 ds_c1 g8 t6
 obtain ⟨hLc1, i1⟩ := t6
 refine T.has hLc1 ?_
 refine T.seq (sR (mA ?_))
 refine R.len underlying64 rfl rfl ?_
 refine mA ?_
 refine R.neq rfl rfl rfl ?_
 refine nN (T.condD rfl (fun i2 => ?_) (fun i2 => ?_))
 refine T.set 65 (.bool true) (congrArg Value.bool (decide_eq_true i2)) ?_
 refine sR (R.bld (cs := zSt) rfl (fun _ => by kernel_rfl) ?_)
 refine stY (l := zSt) (new := zSt) .hd sizeOf31 rfl rfl ?_
 refine aA ?_
 refine nN (T.has (Has.cons .hd Has.nil) ?_)
 refine T.ret (Post.thnR ?_)
 have hM : k_d a0 a1 a2 a3 = (((((fun _ => 0) : W24), (0, [], []), [], []) : ZS), 140) := by subst g7; subst g3; subst e6; rw [k_d, LR.seq_go, if_neg g6, LR.seq_go, if_neg h0, LR.seq_go, i1, LR.on_go, if_pos i2]
 exact finR2 (v := .agg zSt.toArray) (v' := .int .i64 140) [] rfl (.cellA (cs := zSt) (l := zSt) isAgg31 sizeOf31 rfl .hd rfl rfl) (.tmp rfl) (List.sublist_append_left ([] : Own) _) ⟨rfl, .slice none 0 0, .slice none 0 0, .slice none 0 0, .slice none 0 0, by first | rw [hM] | rfl, by rw [hM]; exact RdS.nil, by rw [hM]; exact RdS.nil, by rw [hM]; exact RdS.nil, by rw [hM]; exact RdS.nil⟩
 refine T.set 65 (.bool false) (congrArg Value.bool (decide_eq_false i2)) ?_
 refine T.skip (Post.thnN (sR ?_))
 refine R.ldX (cs := (c24 a0.1 [.int .i64 (a0.2.1.1), sl f3 a0.2.1.2.1 f4, sl f5 a0.2.1.2.2 f6, sl f7 a0.2.2.1 f8, sl f9 a0.2.2.2 g0])) (l := (c24 a0.1 [.int .i64 (a0.2.1.1), sl f3 a0.2.1.2.1 f4, sl f5 a0.2.1.2.2 f6, sl f7 a0.2.2.1 f8, sl f9 a0.2.2.2 g0])) isAgg31 sizeOf31 rfl rfl (.tl .hd) rfl rfl ?_
 refine TL.call [] rfl rfl rfl (state_own_vi _ a0 _ (h8.mono g8) _ (h9.mono g8) _ (g9.mono g8) _ (i0.mono g8) (by assumption)) ?_
 intro v68 H68 L68 n5 q68
 obtain ⟨v6, v7, v8, v9, w1, w2, rfl, rfl, c6, c7, h2, h3⟩ := q68
 obtain ⟨a6, a7, rfl, w3, w4, c6⟩ := RdS.shape c6
 obtain ⟨a8, a9, rfl, w5, w6, c7⟩ := RdS.shape c7
 obtain ⟨b0, b1, rfl, w7, w8⟩ := OwnS.shape h2
 obtain ⟨a4, a5, rfl, w9, x0⟩ := OwnD.shape h3
 refine stY (l := (c24 a0.1 [.int .i64 (a0.2.1.1), sl a6 a0.2.1.2.1 a7, sl a8 a0.2.1.2.2 a9, sl b0 a0.2.2.1 b1, sl a4 a0.2.2.2 a5])) (new := (c24 a0.1 [.int .i64 (a0.2.1.1), sl a6 a0.2.1.2.1 a7, sl a8 a0.2.1.2.2 a9, sl b0 a0.2.2.1 b1, sl a4 a0.2.2.2 a5])) (.tl (.tl (.tl .hd))) sizeOf31 rfl rfl ?_
 refine nN (sR (fA underlying31 rfl sizeOf29 ?_))
 refine R.ld isAgg29 rfl rfl (.tl (.tl (.tl .hd))) rfl ?_
 refine mA ?_
 have o8 : c2.1.toNat < a0.2.2.2.length := bA
 obtain ⟨b3, k2, h72⟩ : ∃ y, y = (a0.2.2.2.getD c2.1.toNat (((0, [], []) : ZR) : ZR)) ∧ a0.2.2.2[c2.1.toNat]? = some y := ⟨_, rfl, k_46 (by first | exact o8 | simpa using o8 | (simp only [List.length_set]; omega) | omega | (rw [(k_26 _).length_eq]; exact o8))⟩
 have hRx := hS.row _ (List.mem_of_getElem? h72)
 have hRl := (hok.row _ (List.mem_of_getElem? h72)).l
 have hRt := hRx.t
 have hRv := hRx.v
 have hW72 := h3
 obtain ⟨i3, k3, cd72, o9, j9, hD72⟩ := hW72
 obtain ⟨rr72, cc72, k0, h4, p0, hR72, k4⟩ := Deep.at hD72 h72
 obtain ⟨z72_1, z72_2, j5, t7, rfl, rfl, h5, e8⟩ := hR72
 obtain ⟨g1, g2, rfl, m72_1, n72_1⟩ := OwnS.shape h5
 obtain ⟨c3, c4, rfl, m72_2, n72_2⟩ := OwnS.shape e8
 obtain ⟨b72, u72, cs72, l72, j6, j72, k5, g72, j7⟩ := OwnS.elem j9 h4
 obtain ⟨rfl, _, _⟩ := g72
 refine TL.focus2 (.tl .hd) o9 p0 ?_
 refine R.ixp (sz := (rawE 3).size) underlying29 sizeOf47 rfl rfl rfl bA k5 ?_
 refine aA ?_
 refine nN (sR (mA ?_))
 refine R.nilck rfl rfl ?_
 refine fA underlying47 rfl sizeOf44 ?_
 refine R.ld isAgg44 rfl rfl (by rw [← j6]; exact .hd) (j7 1 _ rfl) ?_
 refine mA ?_
 obtain ⟨d2, h6⟩ : ∃ r, r = (k_13 b3.2.1 a2) := ⟨_, rfl⟩
 refine R.callvB (v := .tuple #[.int .i64 d2.1, .bool d2.2]) rfl rfl rfl (fun HB79 sB79 qB79 => by have r0 := OwnS.read h5 sB79 (In.all (.tl .hd) qB79); exact (by rw [h6]; exact k_b6 _ _ b3.2.1 r0 (a2) bA)) ?_
 have tb79 := bsI_rng _ _ _ h6 bA
 refine mA ?_
 refine R.ext rfl rfl rfl ?_
 refine R.ext rfl rfl rfl ?_
 refine aA ?_
 refine aA ?_
 refine nN (T.seq (sR (mA ?_)))
 refine nN (T.cond rfl (fun i9 => ?_) (fun i9 => ?_))
 refine T.set 82 (.bool true) (congrArg Value.bool i9) ?_
 have tz82 := tb79.2.2 (by assumption)
 refine T.seq (T.draw k_2f kA ?_)
 refine vM 0 [1, 2, 3, 4, 5, 6, 7, 8] rfl rfl cA ?_
 refine vA 1 [2, 3, 4, 5, 6, 7, 8] rfl (fun _ _ h_ => R.nilck rfl rfl (TL.nil h_)) ?_
 refine vP 2 [3, 4, 5, 6, 7, 8] rfl underlying47 rfl sizeOf45 ?_
 refine vM 4 [3, 5, 6, 7, 8] rfl rfl cA ?_
 refine vM 5 [3, 6, 7, 8] rfl rfl cA ?_
 refine Plan.s2 3 6 [6, 7, 8] [3, 7, 8] kA kA kA rfl rfl ?_ ?_
 refine R.ld isAgg45 rfl rfl (by rw [← j6]; exact .hd) (j7 2 _ rfl) ?_
 refine eA ?_
 refine Plan.s1 6 [7, 8] kA kA rfl ?_
 refine TL.call [] rfl rfl rfl (clone64_c _ _ a3 (n3.mono (g8.trans n5)) bA) ?_
 intro v89 H89 L89 d5 q89
 obtain ⟨c89, rfl, k6⟩ := q89
 obtain ⟨h1, k7⟩ : ∃ x, x = a3 := ⟨_, rfl⟩
 rw [← k7] at k6
 obtain ⟨A89, p89, rfl, m89, n89⟩ := OwnS.shape k6
 have t89 : h1.length = a3.length := by rw [k7]
 refine TL.nil (Plan.e1 (d5) ?_)
 have j0 : d2.1.toNat < b3.2.2.length := bA
 obtain ⟨y90, e90, o6⟩ : ∃ y, y = (b3.2.2.getD d2.1.toNat ([] : List Int)) ∧ b3.2.2[d2.1.toNat]? = some y := ⟨_, rfl, k_46 (by first | exact j0 | simpa using j0 | (simp only [List.length_set]; omega) | omega | (rw [(k_26 _).length_eq]; exact j0))⟩
 obtain ⟨b90, u90, cs90, l90, f90, j90, o7, g90, k90⟩ := OwnS.elem (OwnS.mono e8 d5) o6
 obtain ⟨t8, rfl, j8⟩ := g90
 obtain ⟨t9, u0, rfl, u1, u2, j8⟩ := j8.shape
 refine vA 7 [8] rfl (fun _ _ h_ => R.ixp (sz := ((slE (intE .u64))).size) underlying45 sizeOf64 rfl rfl rfl bA o7 (TL.nil h_)) ?_
 refine Plan.s1 8 [] kA kA rfl ?_
 refine TL.shut .hd ?_
 intro r1 d6 r2
 have r3 := OwnS.read k6 d6 r2
 refine R.stEF (E := (slE (intE .u64))) (e := 64) (v := (sl c3 b3.2.2 c4)) (m := [sl A89 h1 p89]) (o := 0) (y := y90) (y' := h1) (j := d2.1.toNat) sizeOf64 rfl (OwnS.mono e8 (d5.trans d6)) (.tl (.tl .hd)) o7 rfl rfl (cells1 rfl) (k_3 rfl) o6 (by show 0 + 1 ≤ 1; decide) (fun l hl => by rw [List.take_zero, List.drop_of_length_le (by rw [((slE (intE .u64))).len hl]; exact Nat.le_refl _)]; simp only [List.nil_append, List.append_nil]; exact ⟨_, rfl, r3⟩) ?_
 intro q4 u3
 have u4 : OwnD rowD 47 r1 (.slice a4 a0.2.2.2.length a5) (a0.2.2.2.set c2.1.toNat ((b3.1, b3.2.1, (b3.2.2.set d2.1.toNat h1)))) (k3 ++ ((j5 ++ (q4)) ++ k0)) := ⟨(i3.set c2.1.toNat [.int .i64 (b3.1), .slice g1 b3.2.1.length g2, .slice c3 b3.2.2.length c4]), k3, _, rfl, (by rw [set_self h4]; exact (OwnS.mono j9 (d5.trans d6))), k4 _ [.int .i64 (b3.1), .slice g1 b3.2.1.length g2, .slice c3 b3.2.2.length c4] ((b3.1, b3.2.1, (b3.2.2.set d2.1.toNat h1))) (j5 ++ (q4)) (d5.trans d6) ⟨_, _, _, _, rfl, rfl, (OwnS.mono h5 (d5.trans d6)), u3⟩⟩
 refine TL.unfocus2 (.tl .hd) (.tl .hd) .hd .hd ?_
 refine TL.nil (Plan.e0 (d6) ?_)
 refine Plan.done (Post.thnN ?_)
 refine sR (R.ldX (cs := (c24 a0.1 [.int .i64 (a0.2.1.1), .slice a6 a0.2.1.2.1.length a7, .slice a8 a0.2.1.2.2.length a9, .slice b0 a0.2.2.1.length b1, .slice a4 a0.2.2.2.length a5])) (l := (c24 a0.1 [.int .i64 (a0.2.1.1), .slice a6 a0.2.1.2.1.length a7, .slice a8 a0.2.1.2.2.length a9, .slice b0 a0.2.2.1.length b1, .slice a4 a0.2.2.2.length a5])) isAgg31 sizeOf31 rfl rfl (.tl (.tl (.tl .hd))) rfl rfl ?_)
 refine stY (l := (c24 a0.1 [.int .i64 (a0.2.1.1), sl a6 a0.2.1.2.1 a7, sl a8 a0.2.1.2.2 a9, sl b0 a0.2.2.1 b1, sl a4 a0.2.2.2 a5])) (new := (c24 a0.1 [.int .i64 (a0.2.1.1), sl a6 a0.2.1.2.1 a7, sl a8 a0.2.1.2.2 a9, sl b0 a0.2.2.1 b1, sl a4 a0.2.2.2 a5])) (.tl (.tl .hd)) sizeOf31 rfl rfl ?_
 refine aA ?_
 refine nN (T.shut (.tl .hd) ?_)
 intro t1 e9 m4
 have m5 := OwnS.read (OwnS.mono h2 (d5.trans d6)) e9 m4
 refine T.shut .hd ?_
 intro t2 f0 m6
 have m7 := OwnD.read (OwnD.mono u4 e9) f0 m6
 refine T.has (Has.cons .hd Has.nil) ?_
 refine T.ret (Post.thnR ?_)
 have hM : k_d a0 a1 a2 a3 = (((a0.1, (a0.2.1.1, a0.2.1.2.1, a0.2.1.2.2), a0.2.2.1, (a0.2.2.2.set c2.1.toNat ((b3.1, b3.2.1, (b3.2.2.set d2.1.toNat h1))))) : ZS), 0) := by subst e90; subst k7; subst h6; subst k2; subst g7; subst g3; subst e6; rw [k_d, LR.seq_go, if_neg g6, LR.seq_go, if_neg h0, LR.seq_go, i1, LR.on_go, if_neg i2, LR.seq_go, if_t i9]
 exact finR2 (v := .agg (c24 a0.1 [.int .i64 (a0.2.1.1), sl a6 a0.2.1.2.1 a7, sl a8 a0.2.1.2.2 a9, sl b0 a0.2.2.1 b1, sl a4 a0.2.2.2 a5]).toArray) (v' := .int .i64 0) [] rfl (.cellA (cs := (c24 a0.1 [.int .i64 (a0.2.1.1), sl a6 a0.2.1.2.1 a7, sl a8 a0.2.1.2.2 a9, sl b0 a0.2.2.1 b1, sl a4 a0.2.2.2 a5])) (l := (c24 a0.1 [.int .i64 (a0.2.1.1), sl a6 a0.2.1.2.1 a7, sl a8 a0.2.1.2.2 a9, sl b0 a0.2.2.1 b1, sl a4 a0.2.2.2 a5])) isAgg31 sizeOf31 rfl .hd rfl rfl) (.tmp rfl) (List.sublist_append_left ([] : Own) _) ⟨rfl, sl a6 a0.2.1.2.1 a7, sl a8 a0.2.1.2.2 a9, sl b0 a0.2.2.1 b1, sl a4 a0.2.2.2 a5, by first | rw [hM] | rfl, by rw [hM]; exact (c6.mono (d5.trans (d6.trans (e9.trans f0)))), by rw [hM]; exact (c7.mono (d5.trans (d6.trans (e9.trans f0)))), by rw [hM]; exact (m5.mono f0), by rw [hM]; exact m7⟩
 refine TL.call [] rfl rfl rfl (clone64_c _ _ a3 (n3.mono (g8.trans n5)) bA) ?_
 intro v89 H89 L89 d5 q89
 obtain ⟨c89, rfl, k6⟩ := q89
 obtain ⟨h1, k7⟩ : ∃ x, x = a3 := ⟨_, rfl⟩
 rw [← k7] at k6
 obtain ⟨A89, p89, rfl, m89, n89⟩ := OwnS.shape k6
 have t89 : h1.length = a3.length := by rw [k7]
 refine TL.nil (Plan.e1 (d5) ?_)
 refine Plan.s1 3 [7, 8] kA kA rfl ?_
 refine R.ld isAgg45 rfl rfl (by rw [← j6]; exact (.tl .hd)) (j7 2 _ rfl) ?_
 refine eA ?_
 have j0 : d2.1.toNat < b3.2.2.length := bA
 obtain ⟨y90, e90, o6⟩ : ∃ y, y = (b3.2.2.getD d2.1.toNat ([] : List Int)) ∧ b3.2.2[d2.1.toNat]? = some y := ⟨_, rfl, k_46 (by first | exact j0 | simpa using j0 | (simp only [List.length_set]; omega) | omega | (rw [(k_26 _).length_eq]; exact j0))⟩
 obtain ⟨b90, u90, cs90, l90, f90, j90, o7, g90, k90⟩ := OwnS.elem (OwnS.mono e8 d5) o6
 obtain ⟨t8, rfl, j8⟩ := g90
 obtain ⟨t9, u0, rfl, u1, u2, j8⟩ := j8.shape
 refine vA 7 [8] rfl (fun _ _ h_ => R.ixp (sz := ((slE (intE .u64))).size) underlying45 sizeOf64 rfl rfl rfl bA o7 (TL.nil h_)) ?_
 refine Plan.s1 8 [] kA kA rfl ?_
 refine TL.shut .hd ?_
 intro r4 d7 r5
 have r6 := OwnS.read k6 d7 r5
 refine R.stEF (E := (slE (intE .u64))) (e := 64) (v := (sl c3 b3.2.2 c4)) (m := [sl A89 h1 p89]) (o := 0) (y := y90) (y' := h1) (j := d2.1.toNat) sizeOf64 rfl (OwnS.mono e8 (d5.trans d7)) (.tl (.tl .hd)) o7 rfl rfl (cells1 rfl) (k_3 rfl) o6 (by show 0 + 1 ≤ 1; decide) (fun l hl => by rw [List.take_zero, List.drop_of_length_le (by rw [((slE (intE .u64))).len hl]; exact Nat.le_refl _)]; simp only [List.nil_append, List.append_nil]; exact ⟨_, rfl, r6⟩) ?_
 intro q5 u5
 have u6 : OwnD rowD 47 r4 (.slice a4 a0.2.2.2.length a5) (a0.2.2.2.set c2.1.toNat ((b3.1, b3.2.1, (b3.2.2.set d2.1.toNat h1)))) (k3 ++ ((j5 ++ (q5)) ++ k0)) := ⟨(i3.set c2.1.toNat [.int .i64 (b3.1), .slice g1 b3.2.1.length g2, .slice c3 b3.2.2.length c4]), k3, _, rfl, (by rw [set_self h4]; exact (OwnS.mono j9 (d5.trans d7))), k4 _ [.int .i64 (b3.1), .slice g1 b3.2.1.length g2, .slice c3 b3.2.2.length c4] ((b3.1, b3.2.1, (b3.2.2.set d2.1.toNat h1))) (j5 ++ (q5)) (d5.trans d7) ⟨_, _, _, _, rfl, rfl, (OwnS.mono h5 (d5.trans d7)), u5⟩⟩
 refine TL.unfocus2 (.tl .hd) (.tl .hd) .hd .hd ?_
 refine TL.nil (Plan.e0 (d7) ?_)
 refine Plan.done (Post.thnN ?_)
 refine sR (R.ldX (cs := (c24 a0.1 [.int .i64 (a0.2.1.1), .slice a6 a0.2.1.2.1.length a7, .slice a8 a0.2.1.2.2.length a9, .slice b0 a0.2.2.1.length b1, .slice a4 a0.2.2.2.length a5])) (l := (c24 a0.1 [.int .i64 (a0.2.1.1), .slice a6 a0.2.1.2.1.length a7, .slice a8 a0.2.1.2.2.length a9, .slice b0 a0.2.2.1.length b1, .slice a4 a0.2.2.2.length a5])) isAgg31 sizeOf31 rfl rfl (.tl (.tl (.tl .hd))) rfl rfl ?_)
 refine stY (l := (c24 a0.1 [.int .i64 (a0.2.1.1), sl a6 a0.2.1.2.1 a7, sl a8 a0.2.1.2.2 a9, sl b0 a0.2.2.1 b1, sl a4 a0.2.2.2 a5])) (new := (c24 a0.1 [.int .i64 (a0.2.1.1), sl a6 a0.2.1.2.1 a7, sl a8 a0.2.1.2.2 a9, sl b0 a0.2.2.1 b1, sl a4 a0.2.2.2 a5])) (.tl (.tl .hd)) sizeOf31 rfl rfl ?_
 refine aA ?_
 refine nN (T.shut (.tl .hd) ?_)
 intro t3 f1 m8
 have m9 := OwnS.read (OwnS.mono h2 (d5.trans d7)) f1 m8
 refine T.shut .hd ?_
 intro t4 f2 n0
 have n1 := OwnD.read (OwnD.mono u6 f1) f2 n0
 refine T.has (Has.cons .hd Has.nil) ?_
 refine T.ret (Post.thnR ?_)
 have hM : k_d a0 a1 a2 a3 = (((a0.1, (a0.2.1.1, a0.2.1.2.1, a0.2.1.2.2), a0.2.2.1, (a0.2.2.2.set c2.1.toNat ((b3.1, b3.2.1, (b3.2.2.set d2.1.toNat h1))))) : ZS), 0) := by subst e90; subst k7; subst h6; subst k2; subst g7; subst g3; subst e6; rw [k_d, LR.seq_go, if_neg g6, LR.seq_go, if_neg h0, LR.seq_go, i1, LR.on_go, if_neg i2, LR.seq_go, if_t i9]
 exact finR2 (v := .agg (c24 a0.1 [.int .i64 (a0.2.1.1), sl a6 a0.2.1.2.1 a7, sl a8 a0.2.1.2.2 a9, sl b0 a0.2.2.1 b1, sl a4 a0.2.2.2 a5]).toArray) (v' := .int .i64 0) [] rfl (.cellA (cs := (c24 a0.1 [.int .i64 (a0.2.1.1), sl a6 a0.2.1.2.1 a7, sl a8 a0.2.1.2.2 a9, sl b0 a0.2.2.1 b1, sl a4 a0.2.2.2 a5])) (l := (c24 a0.1 [.int .i64 (a0.2.1.1), sl a6 a0.2.1.2.1 a7, sl a8 a0.2.1.2.2 a9, sl b0 a0.2.2.1 b1, sl a4 a0.2.2.2 a5])) isAgg31 sizeOf31 rfl .hd rfl rfl) (.tmp rfl) (List.sublist_append_left ([] : Own) _) ⟨rfl, sl a6 a0.2.1.2.1 a7, sl a8 a0.2.1.2.2 a9, sl b0 a0.2.2.1 b1, sl a4 a0.2.2.2 a5, by first | rw [hM] | rfl, by rw [hM]; exact (c6.mono (d5.trans (d7.trans (f1.trans f2)))), by rw [hM]; exact (c7.mono (d5.trans (d7.trans (f1.trans f2)))), by rw [hM]; exact (m9.mono f2), by rw [hM]; exact n1⟩
 refine T.set 82 (.bool false) (congrArg Value.bool i9) ?_
 refine T.skip (Post.thnN (T.seq ?_))
 refine T.seq (T.shut (.tl (.tl (.tl (.tl .hd)))) ?_)
 intro t5 b2 n2
 have d3 := OwnS.read h2 b2 n2
 refine T.cutK (ι := Int) (fun i7 H' L' ds' => Has L' [[(b8, .cells zSt.toArray 31)], [(b4, .cells (c24 a0.1 [.int .i64 (a0.2.1.1), .slice a6 a0.2.1.2.1.length a7, .slice a8 a0.2.1.2.2.length a9, .slice b0 a0.2.2.1.length b1, .slice a4 a0.2.2.2.length a5]).toArray 31)], k3, j5, t7, k0] ∧ ((k_7d a0 b3 a2) : Int) = i7) (fun i7 => [(2, .int .u64 a2), (3, .slice Aa3 a3.length ca3), (4, .pointer (some ⟨b4, 0, none⟩)), (8, .pointer (some ⟨b8, 0, none⟩)), (17, .pointer (some ⟨b72, c2.1.toNat * (rawE 3).size, none⟩)), (18, .int .i64 (d2.1)), (20, .int .i64 i7)]) ?_ ?_
 refine T.draw k_2f kA ?_
 refine vM 1 [0, 2, 3, 4, 5, 6] rfl rfl cA ?_
 refine vA 2 [0, 3, 4, 5, 6] rfl (fun _ _ h_ => R.nilck rfl rfl (TL.nil h_)) ?_
 refine vM 4 [0, 3, 5, 6] rfl rfl cA ?_
 refine Plan.s2 0 3 [3, 5, 6] [0, 5, 6] kA kA kA rfl rfl ?_ ?_
 refine R.ldX (cs := (c24 a0.1 [.int .i64 (a0.2.1.1), sl a6 a0.2.1.2.1 a7, sl a8 a0.2.1.2.2 a9, sl b0 a0.2.2.1 b1, sl a4 a0.2.2.2 a5])) (l := (c24 a0.1 [.int .i64 (a0.2.1.1), sl a6 a0.2.1.2.1 a7, sl a8 a0.2.1.2.2 a9, sl b0 a0.2.2.1 b1, sl a4 a0.2.2.2 a5])) isAgg31 sizeOf31 rfl rfl (.tl (.tl (.tl (.tl (.tl .hd))))) rfl rfl ?_
 refine eA ?_
 refine Plan.s1 3 [5, 6] kA kA rfl ?_
 refine R.ldAt (l := [.int .i64 (b3.1), sl g1 b3.2.1 g2, sl c3 b3.2.2 c4]) isAgg47 sizeOf47 rfl rfl (by rw [← j6]; exact .hd) rfl (fun j u h => j7 j u h) ?_
 rotate_left
 refine R.ldAt (l := [.int .i64 (b3.1), sl g1 b3.2.1 g2, sl c3 b3.2.2 c4]) isAgg47 sizeOf47 rfl rfl (by rw [← j6]; exact .hd) rfl (fun j u h => j7 j u h) ?_
 refine eA ?_
 refine Plan.s1 0 [5, 6] kA kA rfl ?_
 refine R.ldX (cs := (c24 a0.1 [.int .i64 (a0.2.1.1), sl a6 a0.2.1.2.1 a7, sl a8 a0.2.1.2.2 a9, sl b0 a0.2.2.1 b1, sl a4 a0.2.2.2 a5])) (l := (c24 a0.1 [.int .i64 (a0.2.1.1), sl a6 a0.2.1.2.1 a7, sl a8 a0.2.1.2.2 a9, sl b0 a0.2.2.1 b1, sl a4 a0.2.2.2 a5])) isAgg31 sizeOf31 rfl rfl (.tl (.tl (.tl (.tl (.tl .hd))))) rfl rfl ?_
 rotate_left
 intro i7 σ_c2 H_c2 L_c2 ds_c2 c5 u7
 obtain ⟨hLc2, l1⟩ := u7
 refine T.has hLc2 ?_
 refine sR (mA ?_)
 refine R.neq rfl rfl rfl ?_
 refine nN (T.condD rfl (fun k1 => ?_) (fun k1 => ?_))
 refine T.set 99 (.bool true) (congrArg Value.bool (decide_eq_true k1)) ?_
 refine sR (R.bld (cs := zSt) rfl (fun _ => by kernel_rfl) ?_)
 refine mA ?_
 refine stY (l := zSt) (new := zSt) .hd sizeOf31 rfl rfl ?_
 refine aA ?_
 refine nN (T.has (Has.cons .hd Has.nil) ?_)
 refine T.ret (Post.thnR ?_)
 have hM : k_d a0 a1 a2 a3 = (((((fun _ => 0) : W24), (0, [], []), [], []) : ZS), i7) := by subst h6; subst k2; subst g7; subst g3; subst e6; rw [k_d, LR.seq_go, if_neg g6, LR.seq_go, if_neg h0, LR.seq_go, i1, LR.on_go, if_neg i2, LR.seq_go, if_f i9, l1, LR.seq_go, if_pos k1]
 exact finR2 (v := .agg zSt.toArray) (v' := .int .i64 i7) [] rfl (.cellA (cs := zSt) (l := zSt) isAgg31 sizeOf31 rfl .hd rfl rfl) (.tmp rfl) (List.sublist_append_left ([] : Own) _) ⟨rfl, .slice none 0 0, .slice none 0 0, .slice none 0 0, .slice none 0 0, by first | rw [hM] | rfl, by rw [hM]; exact RdS.nil, by rw [hM]; exact RdS.nil, by rw [hM]; exact RdS.nil, by rw [hM]; exact RdS.nil⟩
 refine T.set 99 (.bool false) (congrArg Value.bool (decide_eq_false k1)) ?_
 refine T.skip (Post.thnN (sR ?_))
 refine mA ?_
 refine R.nilck rfl rfl ?_
 refine fA underlying47 rfl sizeOf44 ?_
 refine R.ld isAgg44 rfl rfl (by rw [← j6]; exact (.tl (.tl .hd))) (j7 1 _ rfl) ?_
 refine mA ?_
 obtain ⟨b7, i8⟩ : ∃ r, r = (k_74 b3.2.1 a2) := ⟨_, rfl⟩
 refine TL.callB (post := fun v' L' => ∃ n7 n8, v' = .tuple #[n7, .int .i64 b7.2] ∧ L' = [n8] ∧ OwnS (intE .u64) 39 H_c2 n7 b7.1 n8) rfl rfl rfl (fun HB108 u8 u9 => by have q9 := OwnS.read (OwnS.mono h5 (b2.trans c5)) u8 (In.all (.tl (.tl (.tl .hd))) u9); exact (by rw [i8]; exact Fc.mono (types_With_c _ _ b3.2.1 q9 (a2) bA) (fun v' H' L' _ ⟨n7, n8, e1, e2, w0_0⟩ => ⟨n7, n8, e1, e2, w0_0.flat (fun _ _ _ _ h => h)⟩))) ?_
 intro v108 L108 q108
 obtain ⟨x1, e7, rfl, rfl, h7⟩ := q108
 obtain ⟨b5, b6, rfl, x2, x3⟩ := OwnS.shape h7
 have tW108 := With_len _ _ _ i8
 refine mA ?_
 refine R.ext rfl rfl rfl ?_
 refine R.ext rfl rfl rfl ?_
 refine aA ?_
 refine aA ?_
 refine nN (T.seq (sR (mA ?_)))
 refine R.neq rfl rfl rfl ?_
 refine nN (T.condD rfl (fun j2 => ?_) (fun j2 => ?_))
 refine T.set 112 (.bool true) (congrArg Value.bool (decide_eq_true j2)) ?_
 refine sR (R.bld (cs := zSt) rfl (fun _ => by kernel_rfl) ?_)
 refine mA ?_
 refine stY (l := zSt) (new := zSt) (.tl .hd) sizeOf31 rfl rfl ?_
 refine aA ?_
 refine nN (T.has (Has.cons (.tl .hd) Has.nil) ?_)
 refine T.ret (Post.thnR ?_)
 have hM : k_d a0 a1 a2 a3 = (((((fun _ => 0) : W24), (0, [], []), [], []) : ZS), b7.2) := by subst i8; subst h6; subst k2; subst g7; subst g3; subst e6; rw [k_d, LR.seq_go, if_neg g6, LR.seq_go, if_neg h0, LR.seq_go, i1, LR.on_go, if_neg i2, LR.seq_go, if_f i9, l1, LR.seq_go, if_neg k1, LR.seq_go, if_pos j2]
 exact finR2 (v := .agg zSt.toArray) (v' := .int .i64 (b7.2)) [] rfl (.cellA (cs := zSt) (l := zSt) isAgg31 sizeOf31 rfl .hd rfl rfl) (.tmp rfl) (List.sublist_append_left ([] : Own) _) ⟨rfl, .slice none 0 0, .slice none 0 0, .slice none 0 0, .slice none 0 0, by first | rw [hM] | rfl, by rw [hM]; exact RdS.nil, by rw [hM]; exact RdS.nil, by rw [hM]; exact RdS.nil, by rw [hM]; exact RdS.nil⟩
 refine T.set 112 (.bool false) (congrArg Value.bool (decide_eq_false j2)) ?_
 refine T.skip (Post.thnN (T.seq ?_))
 refine T.draw k_2f kA ?_
 refine vM 0 [1, 2, 3, 4, 5, 6, 7, 8, 9, 10, 11, 12, 13, 14, 15, 16, 17] rfl rfl cA ?_
 refine vM 1 [2, 3, 4, 5, 6, 7, 8, 9, 10, 11, 12, 13, 14, 15, 16, 17] rfl rfl cA ?_
 refine vM 2 [3, 4, 5, 6, 7, 8, 9, 10, 11, 12, 13, 14, 15, 16, 17] rfl rfl cA ?_
 refine vM 3 [4, 5, 6, 7, 8, 9, 10, 11, 12, 13, 14, 15, 16, 17] rfl rfl cA ?_
 refine vA 4 [5, 6, 7, 8, 9, 10, 11, 12, 13, 14, 15, 16, 17] rfl (fun _ _ h_ => R.nilck rfl rfl (TL.nil h_)) ?_
 refine vP 5 [6, 7, 8, 9, 10, 11, 12, 13, 14, 15, 16, 17] rfl underlying47 rfl sizeOf45 ?_
 refine vM 7 [6, 8, 9, 10, 11, 12, 13, 14, 15, 16, 17] rfl rfl cA ?_
 refine vM 8 [6, 9, 10, 11, 12, 13, 14, 15, 16, 17] rfl rfl cA ?_
 refine Plan.s2 6 9 [9, 10, 11, 12, 13, 14, 15, 16, 17] [6, 10, 11, 12, 13, 14, 15, 16, 17] kA kA kA rfl rfl ?_ ?_
 refine R.ld isAgg45 rfl rfl (by rw [← j6]; exact (.tl (.tl (.tl .hd)))) (j7 2 _ rfl) ?_
 refine eA ?_
 refine Plan.s1 9 [10, 11, 12, 13, 14, 15, 16, 17] kA kA rfl ?_
 refine TL.call [] rfl rfl rfl (clone64_c _ _ a3 (n3.mono (g8.trans (n5.trans (b2.trans c5)))) bA) ?_
 intro v124 H124 L124 c0 p1
 obtain ⟨c124, rfl, i4⟩ := p1
 obtain ⟨d1, i5⟩ : ∃ x, x = a3 := ⟨_, rfl⟩
 rw [← i5] at i4
 obtain ⟨j3, j4, rfl, m124, n124⟩ := OwnS.shape i4
 have t124 : d1.length = a3.length := by rw [i5]
 refine TL.nil (Plan.e1 (c0) ?_)
 refine Plan.s1 10 [11, 12, 13, 14, 15, 16, 17] kA kA rfl ?_
 refine TL.shut .hd ?_
 intro p2 c8 p3
 have l2 := OwnS.read i4 c8 p3
 refine R.bs rfl (k_4 underlying45 sizeOf64 zeroValue64 rfl rfl) ?_
 intro l3
 have r7 := lit1 (E := (slE (intE .u64))) (e := 64) (H := p2) (b := l3) (y := d1) (a := [.slice j3 d1.length j4]) ⟨_, rfl, l2⟩
 refine TL.nil (Plan.e1 (c8) ?_)
 refine Plan.s1 11 [12, 13, 14, 15, 16, 17] kA kA rfl ?_
 refine TL.has (Has.cons (.tl (.tl (.tl (.tl (.tl (.tl .hd)))))) (Has.cons .hd (Has.cons .hd (Has.cons .hd (Has.cons .hd (Has.cons .hd (Has.cons .hd (Has.cons .hd Has.nil)))))))) ?_
 refine TL.call [true, true] rfl rfl rfl (ins_typed (E := (slE (intE .u64))) (e := 64) (xs := b3.2.2) (y := d1) (vc := [.slice j3 d1.length j4]) insR45_c (OwnS.mono e8 (b2.trans (c5.trans (c0.trans c8)))) ⟨_, rfl, l2⟩ bA bA bA) ?_
 intro r8 l4 r9 c1 l5
 obtain ⟨i6, rfl, g4⟩ := l5
 obtain ⟨b9, g5⟩ : ∃ x, x = (b3.2.2.take d2.1.toNat ++ d1 :: b3.2.2.drop d2.1.toNat) := ⟨_, rfl⟩
 rw [← g5] at g4
 obtain ⟨d8, d9, rfl, s0, s3⟩ := OwnS.shape g4
 have s4 : b9.length = b3.2.2.length + 1 := by rw [g5]; simp only [List.length_append, List.length_take, List.length_cons, List.length_drop]; omega
 refine TL.nil (Plan.e1 (c1) ?_)
 refine vA 12 [13, 14, 15, 16, 17] rfl (fun _ _ h_ => R.nilck rfl rfl (TL.nil h_)) ?_
 refine vP 13 [14, 15, 16, 17] rfl underlying47 rfl sizeOf44 ?_
 refine Plan.s1 14 [15, 16, 17] kA kA rfl ?_
 refine R.stEF (E := rawE 3) (e := 47) (v := (sl a4 a0.2.2.2 a5)) (m := [sl b5 b7.1 b6]) (o := 1) (y := [.int .i64 (b3.1), sl g1 b3.2.1 g2, sl c3 b3.2.2 c4]) (y' := [.int .i64 (b3.1), sl b5 b7.1 b6, sl c3 b3.2.2 c4]) (j := c2.1.toNat) sizeOf44 rfl (OwnS.mono j9 (b2.trans (c5.trans (c0.trans (c8.trans c1))))) (.tl (.tl (.tl (.tl .hd)))) k5 rfl rfl (cells1 rfl) (k_3 rfl) h4 (by show 1 + 1 ≤ 3; decide) (fun l hl => by obtain ⟨rfl, _, _⟩ := hl; exact ⟨rfl, rfl, k_3 rfl⟩) ?_
 intro cst24 v0
 refine eB ?_
 refine vA 15 [16, 17] rfl (fun _ _ h_ => R.nilck rfl rfl (TL.nil h_)) ?_
 refine vP 16 [17] rfl underlying47 rfl sizeOf45 ?_
 refine Plan.s1 17 [] kA kA rfl ?_
 refine R.stEF (E := rawE 3) (e := 47) (v := (sl a4 a0.2.2.2 a5)) (m := [sl d8 b9 d9]) (o := 2) (y := [.int .i64 (b3.1), sl b5 b7.1 b6, sl c3 b3.2.2 c4]) (y' := [.int .i64 (b3.1), sl b5 b7.1 b6, sl d8 b9 d9]) (j := c2.1.toNat) sizeOf45 rfl v0 .hd k5 rfl rfl (cells1 rfl) (k_3 rfl) (by rw [List.getElem?_set_self (by (try simp only [List.length_set]); exact (List.getElem?_eq_some_iff.1 h4).1)]) (by show 2 + 1 ≤ 3; decide) (fun l hl => by obtain ⟨rfl, _, _⟩ := hl; exact ⟨rfl, rfl, k_3 rfl⟩) ?_
 intro q6 v1
 have s5 : OwnD rowD 47 l4 (.slice a4 a0.2.2.2.length a5) (a0.2.2.2.set c2.1.toNat ((b3.1, b7.1, b9))) (q6 ++ ((e7 ++ (i6)) ++ k0)) := ⟨(i3.set c2.1.toNat [.int .i64 (b3.1), .slice b5 b7.1.length b6, .slice d8 b9.length d9]), q6, _, rfl, (by have h := v1; rw [List.set_set] at h; exact h), k4 _ [.int .i64 (b3.1), .slice b5 b7.1.length b6, .slice d8 b9.length d9] ((b3.1, b7.1, b9)) (e7 ++ (i6)) (b2.trans (c5.trans (c0.trans (c8.trans c1)))) ⟨_, _, _, _, rfl, rfl, (OwnS.mono h7 (c0.trans (c8.trans c1))), g4⟩⟩
 refine TL.unfocus2 .hd (.tl .hd) .hd (.tl (.tl (.tl .hd))) ?_
 refine eB ?_
 refine Plan.done (Post.thnN ?_)
 refine sR (R.ldX (cs := (c24 a0.1 [.int .i64 (a0.2.1.1), .slice a6 a0.2.1.2.1.length a7, .slice a8 a0.2.1.2.2.length a9, .slice b0 a0.2.2.1.length b1, .slice a4 a0.2.2.2.length a5])) (l := (c24 a0.1 [.int .i64 (a0.2.1.1), .slice a6 a0.2.1.2.1.length a7, .slice a8 a0.2.1.2.2.length a9, .slice b0 a0.2.2.1.length b1, .slice a4 a0.2.2.2.length a5])) isAgg31 sizeOf31 rfl rfl (.tl (.tl .hd)) rfl rfl ?_)
 refine stY (l := (c24 a0.1 [.int .i64 (a0.2.1.1), sl a6 a0.2.1.2.1 a7, sl a8 a0.2.1.2.2 a9, sl b0 a0.2.2.1 b1, sl a4 a0.2.2.2 a5])) (new := (c24 a0.1 [.int .i64 (a0.2.1.1), sl a6 a0.2.1.2.1 a7, sl a8 a0.2.1.2.2 a9, sl b0 a0.2.2.1 b1, sl a4 a0.2.2.2 a5])) (.tl .hd) sizeOf31 rfl rfl ?_
 refine aA ?_
 refine nN (T.shut .hd ?_)
 intro s6 e3 l6
 have l7 := OwnD.read s5 e3 l6
 refine T.has (Has.cons .hd Has.nil) ?_
 refine T.ret ?_
 have hM : k_d a0 a1 a2 a3 = (((a0.1, (a0.2.1.1, a0.2.1.2.1, a0.2.1.2.2), a0.2.2.1, (a0.2.2.2.set c2.1.toNat ((b3.1, b7.1, b9)))) : ZS), 0) := by subst g5; subst i5; subst i8; subst h6; subst k2; subst g7; subst g3; subst e6; rw [k_d, LR.seq_go, if_neg g6, LR.seq_go, if_neg h0, LR.seq_go, i1, LR.on_go, if_neg i2, LR.seq_go, if_f i9, l1, LR.seq_go, if_neg k1, LR.seq_go, if_neg j2]
 exact finR2 (v := .agg (c24 a0.1 [.int .i64 (a0.2.1.1), sl a6 a0.2.1.2.1 a7, sl a8 a0.2.1.2.2 a9, sl b0 a0.2.2.1 b1, sl a4 a0.2.2.2 a5]).toArray) (v' := .int .i64 0) [] rfl (.cellA (cs := (c24 a0.1 [.int .i64 (a0.2.1.1), sl a6 a0.2.1.2.1 a7, sl a8 a0.2.1.2.2 a9, sl b0 a0.2.2.1 b1, sl a4 a0.2.2.2 a5])) (l := (c24 a0.1 [.int .i64 (a0.2.1.1), sl a6 a0.2.1.2.1 a7, sl a8 a0.2.1.2.2 a9, sl b0 a0.2.2.1 b1, sl a4 a0.2.2.2 a5])) isAgg31 sizeOf31 rfl .hd rfl rfl) (.tmp rfl) (List.sublist_append_left ([] : Own) _) ⟨rfl, sl a6 a0.2.1.2.1 a7, sl a8 a0.2.1.2.2 a9, sl b0 a0.2.2.1 b1, sl a4 a0.2.2.2 a5, by first | rw [hM] | rfl, by rw [hM]; exact (c6.mono (b2.trans (c5.trans (c0.trans (c8.trans (c1.trans e3)))))), by rw [hM]; exact (c7.mono (b2.trans (c5.trans (c0.trans (c8.trans (c1.trans e3)))))), by rw [hM]; exact (d3.mono (c5.trans (c0.trans (c8.trans (c1.trans e3))))), by rw [hM]; exact l7⟩
 refine TL.call [] rfl rfl rfl (clone64_c _ _ a3 (n3.mono (g8.trans (n5.trans (b2.trans c5)))) bA) ?_
 intro v124 H124 L124 c0 p1
 obtain ⟨c124, rfl, i4⟩ := p1
 obtain ⟨d1, i5⟩ : ∃ x, x = a3 := ⟨_, rfl⟩
 rw [← i5] at i4
 obtain ⟨j3, j4, rfl, m124, n124⟩ := OwnS.shape i4
 have t124 : d1.length = a3.length := by rw [i5]
 refine TL.nil (Plan.e1 (c0) ?_)
 refine Plan.s2 6 10 [10, 11, 12, 13, 14, 15, 16, 17] [6, 11, 12, 13, 14, 15, 16, 17] kA kA kA rfl rfl ?_ ?_
 refine R.ld isAgg45 rfl rfl (by rw [← j6]; exact (.tl (.tl (.tl (.tl .hd))))) (j7 2 _ rfl) ?_
 refine eA ?_
 refine Plan.s1 10 [11, 12, 13, 14, 15, 16, 17] kA kA rfl ?_
 refine TL.shut .hd ?_
 intro p4 c9 p5
 have l8 := OwnS.read i4 c9 p5
 refine R.bs rfl (k_4 underlying45 sizeOf64 zeroValue64 rfl rfl) ?_
 intro l3
 have r7 := lit1 (E := (slE (intE .u64))) (e := 64) (H := p4) (b := l3) (y := d1) (a := [.slice j3 d1.length j4]) ⟨_, rfl, l8⟩
 refine TL.nil (Plan.e1 (c9) ?_)
 refine Plan.s1 11 [12, 13, 14, 15, 16, 17] kA kA rfl ?_
 refine TL.has (Has.cons (.tl (.tl (.tl (.tl (.tl (.tl .hd)))))) (Has.cons .hd (Has.cons .hd (Has.cons .hd (Has.cons .hd (Has.cons .hd (Has.cons .hd (Has.cons .hd Has.nil)))))))) ?_
 refine TL.call [true, true] rfl rfl rfl (ins_typed (E := (slE (intE .u64))) (e := 64) (xs := b3.2.2) (y := d1) (vc := [.slice j3 d1.length j4]) insR45_c (OwnS.mono e8 (b2.trans (c5.trans (c0.trans c9)))) ⟨_, rfl, l8⟩ bA bA bA) ?_
 intro r8 l4 r9 c1 l5
 obtain ⟨i6, rfl, g4⟩ := l5
 obtain ⟨b9, g5⟩ : ∃ x, x = (b3.2.2.take d2.1.toNat ++ d1 :: b3.2.2.drop d2.1.toNat) := ⟨_, rfl⟩
 rw [← g5] at g4
 obtain ⟨d8, d9, rfl, s0, s3⟩ := OwnS.shape g4
 have s4 : b9.length = b3.2.2.length + 1 := by rw [g5]; simp only [List.length_append, List.length_take, List.length_cons, List.length_drop]; omega
 refine TL.nil (Plan.e1 (c1) ?_)
 refine vA 12 [13, 14, 15, 16, 17] rfl (fun _ _ h_ => R.nilck rfl rfl (TL.nil h_)) ?_
 refine vP 13 [14, 15, 16, 17] rfl underlying47 rfl sizeOf44 ?_
 refine Plan.s1 14 [15, 16, 17] kA kA rfl ?_
 refine R.stEF (E := rawE 3) (e := 47) (v := (sl a4 a0.2.2.2 a5)) (m := [sl b5 b7.1 b6]) (o := 1) (y := [.int .i64 (b3.1), sl g1 b3.2.1 g2, sl c3 b3.2.2 c4]) (y' := [.int .i64 (b3.1), sl b5 b7.1 b6, sl c3 b3.2.2 c4]) (j := c2.1.toNat) sizeOf44 rfl (OwnS.mono j9 (b2.trans (c5.trans (c0.trans (c9.trans c1))))) (.tl (.tl (.tl (.tl .hd)))) k5 rfl rfl (cells1 rfl) (k_3 rfl) h4 (by show 1 + 1 ≤ 3; decide) (fun l hl => by obtain ⟨rfl, _, _⟩ := hl; exact ⟨rfl, rfl, k_3 rfl⟩) ?_
 intro cst26 v2
 refine eB ?_
 refine vA 15 [16, 17] rfl (fun _ _ h_ => R.nilck rfl rfl (TL.nil h_)) ?_
 refine vP 16 [17] rfl underlying47 rfl sizeOf45 ?_
 refine Plan.s1 17 [] kA kA rfl ?_
 refine R.stEF (E := rawE 3) (e := 47) (v := (sl a4 a0.2.2.2 a5)) (m := [sl d8 b9 d9]) (o := 2) (y := [.int .i64 (b3.1), sl b5 b7.1 b6, sl c3 b3.2.2 c4]) (y' := [.int .i64 (b3.1), sl b5 b7.1 b6, sl d8 b9 d9]) (j := c2.1.toNat) sizeOf45 rfl v2 .hd k5 rfl rfl (cells1 rfl) (k_3 rfl) (by rw [List.getElem?_set_self (by (try simp only [List.length_set]); exact (List.getElem?_eq_some_iff.1 h4).1)]) (by show 2 + 1 ≤ 3; decide) (fun l hl => by obtain ⟨rfl, _, _⟩ := hl; exact ⟨rfl, rfl, k_3 rfl⟩) ?_
 intro q7 v3
 have s7 : OwnD rowD 47 l4 (.slice a4 a0.2.2.2.length a5) (a0.2.2.2.set c2.1.toNat ((b3.1, b7.1, b9))) (q7 ++ ((e7 ++ (i6)) ++ k0)) := ⟨(i3.set c2.1.toNat [.int .i64 (b3.1), .slice b5 b7.1.length b6, .slice d8 b9.length d9]), q7, _, rfl, (by have h := v3; rw [List.set_set] at h; exact h), k4 _ [.int .i64 (b3.1), .slice b5 b7.1.length b6, .slice d8 b9.length d9] ((b3.1, b7.1, b9)) (e7 ++ (i6)) (b2.trans (c5.trans (c0.trans (c9.trans c1)))) ⟨_, _, _, _, rfl, rfl, (OwnS.mono h7 (c0.trans (c9.trans c1))), g4⟩⟩
 refine TL.unfocus2 .hd (.tl .hd) .hd (.tl (.tl (.tl .hd))) ?_
 refine eB ?_
 refine Plan.done (Post.thnN ?_)
 refine sR (R.ldX (cs := (c24 a0.1 [.int .i64 (a0.2.1.1), .slice a6 a0.2.1.2.1.length a7, .slice a8 a0.2.1.2.2.length a9, .slice b0 a0.2.2.1.length b1, .slice a4 a0.2.2.2.length a5])) (l := (c24 a0.1 [.int .i64 (a0.2.1.1), .slice a6 a0.2.1.2.1.length a7, .slice a8 a0.2.1.2.2.length a9, .slice b0 a0.2.2.1.length b1, .slice a4 a0.2.2.2.length a5])) isAgg31 sizeOf31 rfl rfl (.tl (.tl .hd)) rfl rfl ?_)
 refine stY (l := (c24 a0.1 [.int .i64 (a0.2.1.1), sl a6 a0.2.1.2.1 a7, sl a8 a0.2.1.2.2 a9, sl b0 a0.2.2.1 b1, sl a4 a0.2.2.2 a5])) (new := (c24 a0.1 [.int .i64 (a0.2.1.1), sl a6 a0.2.1.2.1 a7, sl a8 a0.2.1.2.2 a9, sl b0 a0.2.2.1 b1, sl a4 a0.2.2.2 a5])) (.tl .hd) sizeOf31 rfl rfl ?_
 refine aA ?_
 refine nN (T.shut .hd ?_)
 intro s8 e4 l9
 have m0 := OwnD.read s7 e4 l9
 refine T.has (Has.cons .hd Has.nil) ?_
 refine T.ret ?_
 have hM : k_d a0 a1 a2 a3 = (((a0.1, (a0.2.1.1, a0.2.1.2.1, a0.2.1.2.2), a0.2.2.1, (a0.2.2.2.set c2.1.toNat ((b3.1, b7.1, b9)))) : ZS), 0) := by subst g5; subst i5; subst i8; subst h6; subst k2; subst g7; subst g3; subst e6; rw [k_d, LR.seq_go, if_neg g6, LR.seq_go, if_neg h0, LR.seq_go, i1, LR.on_go, if_neg i2, LR.seq_go, if_f i9, l1, LR.seq_go, if_neg k1, LR.seq_go, if_neg j2]
 exact finR2 (v := .agg (c24 a0.1 [.int .i64 (a0.2.1.1), sl a6 a0.2.1.2.1 a7, sl a8 a0.2.1.2.2 a9, sl b0 a0.2.2.1 b1, sl a4 a0.2.2.2 a5]).toArray) (v' := .int .i64 0) [] rfl (.cellA (cs := (c24 a0.1 [.int .i64 (a0.2.1.1), sl a6 a0.2.1.2.1 a7, sl a8 a0.2.1.2.2 a9, sl b0 a0.2.2.1 b1, sl a4 a0.2.2.2 a5])) (l := (c24 a0.1 [.int .i64 (a0.2.1.1), sl a6 a0.2.1.2.1 a7, sl a8 a0.2.1.2.2 a9, sl b0 a0.2.2.1 b1, sl a4 a0.2.2.2 a5])) isAgg31 sizeOf31 rfl .hd rfl rfl) (.tmp rfl) (List.sublist_append_left ([] : Own) _) ⟨rfl, sl a6 a0.2.1.2.1 a7, sl a8 a0.2.1.2.2 a9, sl b0 a0.2.2.1 b1, sl a4 a0.2.2.2 a5, by first | rw [hM] | rfl, by rw [hM]; exact (c6.mono (b2.trans (c5.trans (c0.trans (c9.trans (c1.trans e4)))))), by rw [hM]; exact (c7.mono (b2.trans (c5.trans (c0.trans (c9.trans (c1.trans e4)))))), by rw [hM]; exact (d3.mono (c5.trans (c0.trans (c9.trans (c1.trans e4))))), by rw [hM]; exact m0⟩
 refine TL.shut .hd ?_
 intro p6 d0 p7
 have m1 := OwnS.read i4 d0 p7
 refine R.bs rfl (k_4 underlying45 sizeOf64 zeroValue64 rfl rfl) ?_
 intro l3
 have r7 := lit1 (E := (slE (intE .u64))) (e := 64) (H := p6) (b := l3) (y := d1) (a := [.slice j3 d1.length j4]) ⟨_, rfl, m1⟩
 refine TL.nil (Plan.e1 (d0) ?_)
 refine Plan.s1 6 [11, 12, 13, 14, 15, 16, 17] kA kA rfl ?_
 refine R.ld isAgg45 rfl rfl (by rw [← j6]; exact (.tl (.tl (.tl (.tl .hd))))) (j7 2 _ rfl) ?_
 refine eA ?_
 refine Plan.s1 11 [12, 13, 14, 15, 16, 17] kA kA rfl ?_
 refine TL.has (Has.cons (.tl (.tl (.tl (.tl (.tl (.tl .hd)))))) (Has.cons .hd (Has.cons .hd (Has.cons .hd (Has.cons .hd (Has.cons .hd (Has.cons .hd (Has.cons .hd Has.nil)))))))) ?_
 refine TL.call [true, true] rfl rfl rfl (ins_typed (E := (slE (intE .u64))) (e := 64) (xs := b3.2.2) (y := d1) (vc := [.slice j3 d1.length j4]) insR45_c (OwnS.mono e8 (b2.trans (c5.trans (c0.trans d0)))) ⟨_, rfl, m1⟩ bA bA bA) ?_
 intro r8 l4 r9 c1 l5
 obtain ⟨i6, rfl, g4⟩ := l5
 obtain ⟨b9, g5⟩ : ∃ x, x = (b3.2.2.take d2.1.toNat ++ d1 :: b3.2.2.drop d2.1.toNat) := ⟨_, rfl⟩
 rw [← g5] at g4
 obtain ⟨d8, d9, rfl, s0, s3⟩ := OwnS.shape g4
 have s4 : b9.length = b3.2.2.length + 1 := by rw [g5]; simp only [List.length_append, List.length_take, List.length_cons, List.length_drop]; omega
 refine TL.nil (Plan.e1 (c1) ?_)
 refine vA 12 [13, 14, 15, 16, 17] rfl (fun _ _ h_ => R.nilck rfl rfl (TL.nil h_)) ?_
 refine vP 13 [14, 15, 16, 17] rfl underlying47 rfl sizeOf44 ?_
 refine Plan.s1 14 [15, 16, 17] kA kA rfl ?_
 refine R.stEF (E := rawE 3) (e := 47) (v := (sl a4 a0.2.2.2 a5)) (m := [sl b5 b7.1 b6]) (o := 1) (y := [.int .i64 (b3.1), sl g1 b3.2.1 g2, sl c3 b3.2.2 c4]) (y' := [.int .i64 (b3.1), sl b5 b7.1 b6, sl c3 b3.2.2 c4]) (j := c2.1.toNat) sizeOf44 rfl (OwnS.mono j9 (b2.trans (c5.trans (c0.trans (d0.trans c1))))) (.tl (.tl (.tl (.tl .hd)))) k5 rfl rfl (cells1 rfl) (k_3 rfl) h4 (by show 1 + 1 ≤ 3; decide) (fun l hl => by obtain ⟨rfl, _, _⟩ := hl; exact ⟨rfl, rfl, k_3 rfl⟩) ?_
 intro cst28 v4
 refine eB ?_
 refine vA 15 [16, 17] rfl (fun _ _ h_ => R.nilck rfl rfl (TL.nil h_)) ?_
 refine vP 16 [17] rfl underlying47 rfl sizeOf45 ?_
 refine Plan.s1 17 [] kA kA rfl ?_
 refine R.stEF (E := rawE 3) (e := 47) (v := (sl a4 a0.2.2.2 a5)) (m := [sl d8 b9 d9]) (o := 2) (y := [.int .i64 (b3.1), sl b5 b7.1 b6, sl c3 b3.2.2 c4]) (y' := [.int .i64 (b3.1), sl b5 b7.1 b6, sl d8 b9 d9]) (j := c2.1.toNat) sizeOf45 rfl v4 .hd k5 rfl rfl (cells1 rfl) (k_3 rfl) (by rw [List.getElem?_set_self (by (try simp only [List.length_set]); exact (List.getElem?_eq_some_iff.1 h4).1)]) (by show 2 + 1 ≤ 3; decide) (fun l hl => by obtain ⟨rfl, _, _⟩ := hl; exact ⟨rfl, rfl, k_3 rfl⟩) ?_
 intro q8 v5
 have s9 : OwnD rowD 47 l4 (.slice a4 a0.2.2.2.length a5) (a0.2.2.2.set c2.1.toNat ((b3.1, b7.1, b9))) (q8 ++ ((e7 ++ (i6)) ++ k0)) := ⟨(i3.set c2.1.toNat [.int .i64 (b3.1), .slice b5 b7.1.length b6, .slice d8 b9.length d9]), q8, _, rfl, (by have h := v5; rw [List.set_set] at h; exact h), k4 _ [.int .i64 (b3.1), .slice b5 b7.1.length b6, .slice d8 b9.length d9] ((b3.1, b7.1, b9)) (e7 ++ (i6)) (b2.trans (c5.trans (c0.trans (d0.trans c1)))) ⟨_, _, _, _, rfl, rfl, (OwnS.mono h7 (c0.trans (d0.trans c1))), g4⟩⟩
 refine TL.unfocus2 .hd (.tl .hd) .hd (.tl (.tl (.tl .hd))) ?_
 refine eB ?_
 refine Plan.done (Post.thnN ?_)
 refine sR (R.ldX (cs := (c24 a0.1 [.int .i64 (a0.2.1.1), .slice a6 a0.2.1.2.1.length a7, .slice a8 a0.2.1.2.2.length a9, .slice b0 a0.2.2.1.length b1, .slice a4 a0.2.2.2.length a5])) (l := (c24 a0.1 [.int .i64 (a0.2.1.1), .slice a6 a0.2.1.2.1.length a7, .slice a8 a0.2.1.2.2.length a9, .slice b0 a0.2.2.1.length b1, .slice a4 a0.2.2.2.length a5])) isAgg31 sizeOf31 rfl rfl (.tl (.tl .hd)) rfl rfl ?_)
 refine stY (l := (c24 a0.1 [.int .i64 (a0.2.1.1), sl a6 a0.2.1.2.1 a7, sl a8 a0.2.1.2.2 a9, sl b0 a0.2.2.1 b1, sl a4 a0.2.2.2 a5])) (new := (c24 a0.1 [.int .i64 (a0.2.1.1), sl a6 a0.2.1.2.1 a7, sl a8 a0.2.1.2.2 a9, sl b0 a0.2.2.1 b1, sl a4 a0.2.2.2 a5])) (.tl .hd) sizeOf31 rfl rfl ?_
 refine aA ?_
 refine nN (T.shut .hd ?_)
 intro t0 e5 m2
 have m3 := OwnD.read s9 e5 m2
 refine T.has (Has.cons .hd Has.nil) ?_
 refine T.ret ?_
 have hM : k_d a0 a1 a2 a3 = (((a0.1, (a0.2.1.1, a0.2.1.2.1, a0.2.1.2.2), a0.2.2.1, (a0.2.2.2.set c2.1.toNat ((b3.1, b7.1, b9)))) : ZS), 0) := by subst g5; subst i5; subst i8; subst h6; subst k2; subst g7; subst g3; subst e6; rw [k_d, LR.seq_go, if_neg g6, LR.seq_go, if_neg h0, LR.seq_go, i1, LR.on_go, if_neg i2, LR.seq_go, if_f i9, l1, LR.seq_go, if_neg k1, LR.seq_go, if_neg j2]
 exact finR2 (v := .agg (c24 a0.1 [.int .i64 (a0.2.1.1), sl a6 a0.2.1.2.1 a7, sl a8 a0.2.1.2.2 a9, sl b0 a0.2.2.1 b1, sl a4 a0.2.2.2 a5]).toArray) (v' := .int .i64 0) [] rfl (.cellA (cs := (c24 a0.1 [.int .i64 (a0.2.1.1), sl a6 a0.2.1.2.1 a7, sl a8 a0.2.1.2.2 a9, sl b0 a0.2.2.1 b1, sl a4 a0.2.2.2 a5])) (l := (c24 a0.1 [.int .i64 (a0.2.1.1), sl a6 a0.2.1.2.1 a7, sl a8 a0.2.1.2.2 a9, sl b0 a0.2.2.1 b1, sl a4 a0.2.2.2 a5])) isAgg31 sizeOf31 rfl .hd rfl rfl) (.tmp rfl) (List.sublist_append_left ([] : Own) _) ⟨rfl, sl a6 a0.2.1.2.1 a7, sl a8 a0.2.1.2.2 a9, sl b0 a0.2.2.1 b1, sl a4 a0.2.2.2 a5, by first | rw [hM] | rfl, by rw [hM]; exact (c6.mono (b2.trans (c5.trans (c0.trans (d0.trans (c1.trans e5)))))), by rw [hM]; exact (c7.mono (b2.trans (c5.trans (c0.trans (d0.trans (c1.trans e5)))))), by rw [hM]; exact (d3.mono (c5.trans (c0.trans (d0.trans (c1.trans e5))))), by rw [hM]; exact m3⟩
 all_goals (
  refine eA ?_
  refine Plan.s1 5 [6] kA kA rfl ?_
  refine R.callvB rfl rfl rfl (fun HB97 d4 j1 => by have k8 := OwnD.read (OwnD.mono h3 b2) d4 (in4p o9 p0 .hd (.tl .hd) (.tl (.tl .hd)) (.tl (.tl (.tl .hd))) j1); have k9 := OwnS.read (OwnS.mono h5 b2) d4 (In.all (.tl .hd) j1); have l0 := OwnS.read (OwnS.mono e8 b2) d4 (In.all (.tl (.tl .hd)) j1); exact (state_joins_c _ ((g8.trans (n5.trans (b2.trans d4))) _ _ p8) a0 _ (c6.mono (b2.trans d4)) _ (c7.mono (b2.trans d4)) _ (d3.mono d4) _ k8 b3 _ k9 _ l0 (a2) (by assumption) (by assumption))) ?_
  refine eA ?_
  refine vA 6 [] rfl (fun _ _ h_ => aA (TL.nil h_)) ?_
  refine Plan.done (Post.thnN ?_)
  exact ⟨(k_7d a0 b3 a2), HLe.refl _, ⟨(Has.cons (.tl (.tl (.tl (.tl .hd)))) (Has.cons (.tl (.tl (.tl (.tl .hd)))) (Has.cons .hd (Has.cons .hd (Has.cons .hd (Has.cons .hd Has.nil)))))), (by rfl)⟩, rfl, rfl, rfl, rfl, rfl, rfl, rfl, trivial⟩)
end Go.SX
namespace Go.SX
open Go
structure RowT (r : Rw) : Prop where
  t : r.2.1.length ≤ 14
  v : r.2.2.length ≤ 14
  w : ∀ x ∈ r.2.2, x.length ≤ 6
structure StT (s : Sta) : Prop where
  slots : s.2.1.2.1.length ≤ 24
  free : s.2.1.2.2.length ≤ 24
  rels : s.2.2.1.length ≤ 24
  rows : s.2.2.2.length ≤ 20
  row : ∀ r ∈ s.2.2.2, RowT r
theorem idsN_le {B : Nat} : ∀ {l : List Rw}, (∀ r ∈ l, r.2.1.length ≤ B) → idsN l ≤ B * l.length
  | [], _ => Nat.zero_le _
  | y :: ys, h => by
    have h1 := h y (List.mem_cons_self ..)
    have h2 := idsN_le (l := ys) (fun r hr => h r (List.mem_cons_of_mem _ hr))
    have e : idsN (y :: ys) = y.2.1.length + idsN ys := rfl
    rw [e, List.length_cons, Nat.mul_add, Nat.mul_one]; omega
theorem RowT.s {r : Rw} (h : RowT r) : RowS r := ⟨by have := h.t; omega, by have := h.v; omega, fun x hx => by have := h.w x hx; omega⟩
theorem StT.sts {s : Sta} (h : StT s) : StS s := by
  have h1 := idsN_le (l := s.2.2.2) (fun r hr => (h.row r hr).t)
  have := h.slots; have := h.free; have := h.rels; have := h.rows
  exact ⟨by omega, by omega, by omega, by omega, fun r hr => (h.row r hr).s, by omega⟩
end Go.SX
