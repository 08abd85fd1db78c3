/- Lemmas. -/
import Derived.Test.YtflpmgehkoachaaGreatDoorKV2
set_option maxHeartbeats 3200000
set_option linter.unusedVariables false
set_option linter.unusedSimpArgs false
namespace Go.SX
open Go Go.Proofs Go.Proofs.Tryz
def rowE : ER (ZR) where
  size := 3
  R := fun H cs x => ∃ v1 v2, cs = [.int .i64 x.1, v1, v2] ∧ RdS (intE .u64) H v1 x.2.1 ∧ RdS (slE (intE .u64)) H v2 x.2.2
  len := fun h => by obtain ⟨v1, v2, rfl, _⟩ := h; rfl
  mono := fun hl h => by obtain ⟨v1, v2, rfl, h0, h1⟩ := h; exact ⟨v1, v2, rfl, h0.mono hl, h1.mono hl⟩
  one := fun h v hv => by
    obtain ⟨v1, v2, rfl, h0, h1⟩ := h
    simp only [List.mem_cons, List.not_mem_nil, or_false] at hv
    rcases hv with rfl | rfl | rfl <;> first | rfl | exact RdS.one (by assumption)
def Y178 : Heap → List Value → (Int × Int) → Prop := fun H vs y => vs = [.int .i64 y.1, .int .u64 y.2]
theorem Tryz_ty56 : TyE Tryz.prog 56 71 pairE 16 := TyE.mk' (z := .agg #[.int .i64 0, .int .i64 0]) underlying56 (by kernel_rfl) rfl (by decide)
def k_f (a0 : List (ZR)) (a1 : Int) (a2 : (ZR) → Int → Int) : Nat → (Int × Int) → Int × Int
  | 0, _ => default
  | ml1 + 1, sl1 => if sl1.1 < sl1.2 then (if ((a2 (a0.getD (((IntKind.i64.wrap (bshr .u64 (IntKind.u64.wrap (sl1.1 + sl1.2)) 1))).toNat) (((0, [], []) : ZR) : ZR)) a1) : Int) < 0 then (k_f a0 a1 a2 ml1 ((((IntKind.i64.wrap (bshr .u64 (IntKind.u64.wrap (sl1.1 + sl1.2)) 1)) + 1), sl1.2))) else (k_f a0 a1 a2 ml1 ((sl1.1, (IntKind.i64.wrap (bshr .u64 (IntKind.u64.wrap (sl1.1 + sl1.2)) 1)))))) else ((sl1.1, sl1.2))
def k_20 (a0 : List (ZR)) (a1 : Int) (a2 : (ZR) → Int → Int) : Int × Bool :=
  LR.seq (k_f a0 a1 a2 ((((a0.length : Int)) - 0).toNat + 1) ((0, (a0.length : Int)))) (fun ol1 => if ol1.1 < (a0.length : Int) then ((ol1.1, (decide (((a2 (a0.getD ol1.1.toNat (((0, [], []) : ZR) : ZR)) a1) : Int) = 0)))) else ((ol1.1, false)))
theorem slices_BinarySearchFunc_Row_int_c (H : Heap) (va0 : Value) (a0 : List (ZR)) (b9 : RdS rowE H va0 a0) (a1 : Int) (c0 : Value) (a2 : (ZR) → Int → Int) (ha2 : ∀ H', HLe H H' → ∀ (z0 : ZR) (c1 : Value) (hz0_1 : RdS (intE .u64) H' c1 z0.2.1) (c2 : Value) (hz0_2 : RdS (slE (intE .u64)) H' c2 z0.2.2) (z1 : Int), Fv Tryz.prog c0 [.agg #[.int .i64 z0.1, c1, c2], .int .i64 z1] H' (.int .i64 (a2 z0 z1))) (na2 : c0.oneCell' = true) (hl : a0.length ≤ 2000000) : Fv Tryz.prog (fnv 132) [va0, .int .i64 a1, c0] H (.tuple #[.int .i64 (k_20 a0 a1 a2).1, .bool (k_20 a0 a1 a2).2]) := by
 refine Fc.of_body (N := 49) func132 rfl kA rfl rfl ?_
 intro w0
 obtain ⟨Aa0, ca0, rfl, hca0, hda0, b9⟩ := b9.shape
 refine sR (aA ?_)
 refine aA ?_
 refine nN (sR (mA ?_))
 refine R.len underlying29 rfl rfl ?_
 refine aA ?_
 refine nN (sR (mA ?_))
 refine aA ?_
 refine aA ?_
 refine nN (T.seq (T.block (T.loop (ι := Nat × Int × Int) (fun ⟨a6, a3, a4⟩ H' L' ds' => (a4 - a3).toNat < a6 ∧ Has L' [] ∧ 0 ≤ a3 ∧ a3 ≤ a4 ∧ a4 ≤ (a0.length : Int) ∧ k_f a0 a1 a2 a6 ((a3, a4)) = k_f a0 a1 a2 ((((a0.length : Int)) - 0).toNat + 1) ((0, (a0.length : Int)))) (fun ⟨a6, a3, a4⟩ => [(0, .slice Aa0 a0.length ca0), (1, .int .i64 a1), (2, c0), (8, .int .i64 (a0.length : Int)), (9, .int .i64 a3), (10, .int .i64 a4)]) (fun ⟨a6, a3, a4⟩ => a6) (((((a0.length : Int)) - 0).toNat + 1), 0, (a0.length : Int)) ?_ ?_ ?_)))
 exact ⟨oA, Has.nil, bA, bA, bA, (by rfl)⟩
 exact ⟨rfl, rfl, rfl, rfl, rfl, rfl, trivial⟩
 intro ⟨a6, a3, a4⟩ σ_l1 H_l1 L_l1 ds_l1 a5 b0
 obtain ⟨hkl1, b0⟩ := b0
 obtain ⟨a7, rfl⟩ : ∃ m, a6 = m + 1 := ⟨a6 - 1, by omega⟩
 obtain ⟨hLl1, hBl1_0, hBl1_1, hBl1_2, b6⟩ := b0
 refine T.has hLl1 ?_
 refine T.seq (sR (mA ?_))
 refine mA ?_
 refine R.lss rfl rfl rfl ?_
 refine nN (T.condD rfl (fun a8 => ?_) (fun a8 => ?_))
 refine T.set 17 (.bool true) (congrArg Value.bool (decide_eq_true a8)) ?_
 refine T.skip (Post.thnN (T.block ?_))
 refine sR (mA ?_)
 refine mA ?_
 refine R.addI rfl rfl rfl oA ?_
 refine R.conv underlying3 underlying161 rfl rfl ?_
 refine R.shr rfl rfl rfl oA ?_
 refine R.conv underlying161 underlying3 rfl rfl ?_
 refine aA ?_
 refine nN (T.seq ?_)
 have hmid := midI (i := a3) (j := a4) oA oA oA
 refine T.region (mA ?_)
 refine mA ?_
 refine mA ?_
 have b7 : ((IntKind.i64.wrap (bshr .u64 (IntKind.u64.wrap (a3 + a4)) 1))).toNat < a0.length := bA
 obtain ⟨c3, e27, h27⟩ : ∃ y, y = (a0.getD (((IntKind.i64.wrap (bshr .u64 (IntKind.u64.wrap (a3 + a4)) 1))).toNat) (((0, [], []) : ZR) : ZR)) ∧ a0[((IntKind.i64.wrap (bshr .u64 (IntKind.u64.wrap (a3 + a4)) 1))).toNat]? = some y := ⟨_, rfl, k_46 (by first | exact b7 | simpa using b7 | (simp only [List.length_set]; omega) | omega | (rw [(k_26 _).length_eq]; exact b7))⟩
 obtain ⟨b27, o27, i27, k27⟩ := RdS.elem (b9.mono a5) h27
 obtain ⟨l27, g27, k27⟩ := k27
 obtain ⟨z27_1, z27_2, rfl, b1, b2⟩ := g27
 obtain ⟨c5, c6, rfl, m27_1, n27_1, b1⟩ := b1.shape
 obtain ⟨c7, c8, rfl, m27_2, n27_2, b2⟩ := b2.shape
 refine R.ixp underlying29 sizeOf47 rfl rfl rfl bA i27 ?_
 refine R.ldK (l := [.int .i64 (c3.1), sl c5 c3.2.1 c6, sl c7 c3.2.2 c8]) isAgg47 sizeOf47 rfl rfl k27 rfl ?_
 refine mA ?_
 refine R.callv rfl rfl rfl (ha2 _ a5 c3 _ b1 _ b2 (a1)) ?_
 refine R.lss rfl rfl rfl ?_
 refine nN (T.condD rfl (fun b5 => ?_) (fun b5 => ?_))
 refine T.set 31 (.bool true) (congrArg Value.bool (decide_eq_true b5)) ?_
 refine T.region (mA ?_)
 refine R.addI rfl rfl rfl oA ?_
 refine aA ?_
 refine TL.nil (Post.blkN ?_)
 refine id (Post.thnN ?_)
 exact ⟨(a7, ((IntKind.i64.wrap (bshr .u64 (IntKind.u64.wrap (a3 + a4)) 1)) + 1), a4), a5, ⟨(by first | omega | (simp; omega) | (simp at *; omega)), Has.nil, bA, bA, bA, (by subst e27; rw [← b6, k_f]; rw [if_pos a8, if_pos b5])⟩, by show a7 < a7 + 1; omega, rfl, rfl, rfl, rfl, rfl, rfl, trivial⟩
 refine T.set 31 (.bool false) (congrArg Value.bool (decide_eq_false b5)) ?_
 refine T.region (mA ?_)
 refine aA ?_
 refine TL.nil (Post.blkN ?_)
 refine id (Post.thnN ?_)
 exact ⟨(a7, a3, (IntKind.i64.wrap (bshr .u64 (IntKind.u64.wrap (a3 + a4)) 1))), a5, ⟨(by first | omega | (simp; omega) | (simp at *; omega)), Has.nil, bA, bA, bA, (by subst e27; rw [← b6, k_f]; rw [if_pos a8, if_neg b5])⟩, by show a7 < a7 + 1; omega, rfl, rfl, rfl, rfl, rfl, rfl, trivial⟩
 refine T.set 17 (.bool false) (congrArg Value.bool (decide_eq_false a8)) ?_
 refine T.exit (Post.thnE (Post.thnE (Post.blkX ?_)))
 have c4 : k_f a0 a1 a2 ((((a0.length : Int)) - 0).toNat + 1) ((0, (a0.length : Int))) = (a3, a4) := (by rw [← b6, k_f]; rw [if_neg a8])
 refine id (Post.thnN (sR ?_))
 refine mA ?_
 refine mA ?_
 refine mA ?_
 refine R.lss rfl rfl rfl ?_
 refine mA ?_
 refine TL.gsplitD 39 rfl (fun g39 => ?_) (fun g39 => ?_)
 refine mA ?_
 refine mA ?_
 refine mA ?_
 have b8 : a3.toNat < a0.length := bA
 obtain ⟨a9, e43, h43⟩ : ∃ y, y = (a0.getD a3.toNat (((0, [], []) : ZR) : ZR)) ∧ a0[a3.toNat]? = some y := ⟨_, rfl, k_46 (by first | exact b8 | simpa using b8 | (simp only [List.length_set]; omega) | omega | (rw [(k_26 _).length_eq]; exact b8))⟩
 obtain ⟨b43, o43, i43, k43⟩ := RdS.elem (b9.mono a5) h43
 obtain ⟨l43, g43, k43⟩ := k43
 obtain ⟨z43_1, z43_2, rfl, b3, b4⟩ := g43
 obtain ⟨c9, d0, rfl, m43_1, n43_1, b3⟩ := b3.shape
 obtain ⟨d1, d2, rfl, m43_2, n43_2, b4⟩ := b4.shape
 refine R.ixp underlying29 sizeOf47 rfl rfl rfl bA i43 ?_
 refine R.ldK (l := [.int .i64 (a9.1), sl c9 a9.2.1 d0, sl d1 a9.2.2 d2]) isAgg47 sizeOf47 rfl rfl k43 rfl ?_
 refine mA ?_
 refine R.callv rfl rfl rfl (ha2 _ a5 a9 _ b3 _ b4 (a1)) ?_
 refine R.eql rfl rfl rfl ?_
 refine R.pkTE rfl rfl cA ?_
 refine aA ?_
 refine aA ?_
 refine nN (T.has Has.nil ?_)
 refine T.ret ?_
 have hM : k_20 a0 a1 a2 = (a3, (decide (((a2 a9 a1) : Int) = 0))) := by subst e43; rw [k_20, c4, LR.seq_go, if_pos g39]
 exact fin2L (v := .int .i64 a3) (v' := .bool (decide (((a2 a9 a1) : Int) = 0))) [] rfl rfl rfl (List.Sublist.refl _) ⟨rfl, by first | rw [hM] | rfl⟩
 refine oF ?_
 refine oF ?_
 refine oF ?_
 refine oF ?_
 refine oF ?_
 refine oF ?_
 refine oF ?_
 refine oF ?_
 refine R.pkFE rfl rfl cA ?_
 refine aA ?_
 refine aA ?_
 refine nN (T.has Has.nil ?_)
 refine T.ret ?_
 have hM : k_20 a0 a1 a2 = (a3, false) := by rw [k_20, c4, LR.seq_go, if_neg g39]
 exact fin2L (v := .int .i64 a3) (v' := .bool false) [] rfl rfl rfl (List.Sublist.refl _) ⟨rfl, by first | rw [hM] | rfl⟩
def k_68 (a0 : ZR) (a1 : Int) : Int :=
  if a0.1 < a1 then (-1) else (if a1 < a0.1 then 1 else 0)
theorem state_find_1_c (H : Heap) (a0 : ZR) (a3 : Value) (a4 : RdS (intE .u64) H a3 a0.2.1) (a5 : Value) (a6 : RdS (slE (intE .u64)) H a5 a0.2.2) (a1 : Int) : Fv Tryz.prog (fnv 131) [.agg #[.int .i64 a0.1, a3, a5], .int .i64 a1] H (.int .i64 (k_68 a0 a1)) := by
 refine Fc.of_body (N := 15) func131 rfl kA rfl rfl ?_
 intro w0
 obtain ⟨a8, a9, rfl, hca0_1, hda0_1, a4⟩ := a4.shape
 obtain ⟨b0, b1, rfl, hca0_2, hda0_2, a6⟩ := a6.shape
 refine sR (R.box rfl cA ?_)
 intro b2
 refine aA ?_
 refine TL.shut .hd ?_
 intro b3 sb2_1 b4
 have a7 : b3 b2 = some (.cells #[.int .i64 (a0.1), .slice a8 a0.2.1.length a9, .slice b0 a0.2.2.length b1] 47) := shut1 b4
 refine nN (T.seq (T.block (sR (fA underlying47 rfl sizeOf3 ?_))))
 refine R.ldH isAgg3 rfl rfl a7 rfl ?_
 refine mA ?_
 refine R.lss rfl rfl rfl ?_
 refine aA ?_
 refine nN (T.condD rfl (fun c5 => ?_) (fun c5 => ?_))
 refine T.set 5 (.bool true) (congrArg Value.bool (decide_eq_true c5)) ?_
 refine sR (aA ?_)
 refine nN (T.has Has.nil ?_)
 refine T.ret (Post.blkR (Post.thnR ?_))
 have hM : k_68 a0 a1 = (-1) := by rw [k_68, if_pos c5]
 exact fin1L (v := .int .i64 (-1)) [] rfl rfl (List.Sublist.refl _) ⟨rfl, by first | rw [hM] | rfl⟩
 refine T.set 5 (.bool false) (congrArg Value.bool (decide_eq_false c5)) ?_
 refine sR (fA underlying47 rfl sizeOf3 ?_)
 refine R.ldH isAgg3 rfl rfl a7 rfl ?_
 refine mA ?_
 refine R.gtr rfl rfl rfl ?_
 refine aA ?_
 refine nN (T.condD rfl (fun a2 => ?_) (fun a2 => ?_))
 refine T.set 10 (.bool true) (congrArg Value.bool (decide_eq_true a2)) ?_
 refine sR (aA ?_)
 refine nN (T.has Has.nil ?_)
 refine T.ret (Post.blkR (Post.thnR ?_))
 have hM : k_68 a0 a1 = 1 := by rw [k_68, if_neg c5, if_pos a2]
 exact fin1L (v := .int .i64 1) [] rfl rfl (List.Sublist.refl _) ⟨rfl, by first | rw [hM] | rfl⟩
 refine T.set 10 (.bool false) (congrArg Value.bool (decide_eq_false a2)) ?_
 refine T.skip (Post.blkN ?_)
 refine id (Post.thnN (sR ?_))
 refine aA ?_
 refine nN (T.has Has.nil ?_)
 refine T.ret ?_
 have hM : k_68 a0 a1 = 0 := by rw [k_68, if_neg c5, if_neg a2]
 exact fin1L (v := .int .i64 0) [] rfl rfl (List.Sublist.refl _) ⟨rfl, by first | rw [hM] | rfl⟩
def k_1b (a0 : ZS) (a1 : Int) : Int × Bool :=
  LR.seq (k_20 a0.2.2.2 a1 ((fun z0 z1 => k_68 z0 z1))) (fun r11 => (r11.1, r11.2))
theorem state_find_c (H : Heap) (a0 : ZS) (a4 : Value) (a5 : RdS slotE H a4 a0.2.1.2.1) (a6 : Value) (a7 : RdS (intE .i64) H a6 a0.2.1.2.2) (a8 : Value) (a9 : RdS relationE H a8 a0.2.2.1) (b0 : Value) (a2 : RdS rowE H b0 a0.2.2.2) (a1 : Int) (hw : a0.2.2.2.length ≤ 2000000) : Fv Tryz.prog (fnv 57) [.agg (c24 a0.1 [.int .i64 a0.2.1.1, a4, a6, a8, b0]).toArray, .int .i64 a1] H (.tuple #[.int .i64 (k_1b a0 a1).1, .bool (k_1b a0 a1).2]) := by
 refine Fc.of_body (N := 14) func57 rfl kA rfl rfl ?_
 intro w0
 obtain ⟨b1, b3, rfl, c9, d0, a5⟩ := a5.shape
 obtain ⟨b4, b5, rfl, d1, d2, a7⟩ := a7.shape
 obtain ⟨b6, b7, rfl, d3, d4, a9⟩ := a9.shape
 obtain ⟨b8, b9, rfl, d5, d6, a2⟩ := a2.shape
 refine sR (R.box rfl cA ?_)
 intro b2
 refine aA ?_
 refine aA ?_
 refine TL.shut .hd ?_
 intro c1 c2 c3
 have c4 : c1 b2 = some (.cells (c24 a0.1 [.int .i64 (a0.2.1.1), .slice b1 a0.2.1.2.1.length b3, .slice b4 a0.2.1.2.2.length b5, .slice b6 a0.2.2.1.length b7, .slice b8 a0.2.2.2.length b9]).toArray 31) := shut1 c3
 refine nN (sR (aA ?_))
 refine nN (sR (fA underlying31 rfl sizeOf29 ?_))
 refine R.ldH isAgg29 rfl rfl c4 rfl ?_
 refine mA ?_
 refine mA ?_
 obtain ⟨a3, c0⟩ : ∃ r, r = (k_20 a0.2.2.2 a1 ((fun z0 z1 => k_68 z0 z1))) := ⟨_, rfl⟩
 refine R.callv (v := .tuple #[.int .i64 a3.1, .bool a3.2]) rfl rfl rfl (by rw [c0]; exact slices_BinarySearchFunc_Row_int_c _ _ a0.2.2.2 (a2.mono c2) (a1) _ (fun z0 z1 => k_68 z0 z1) (fun H2 h2 z0 c5 c6 c7 c8 z1 => state_find_1_c H2 z0 c5 c6 c7 c8 z1) rfl bA) ?_
 refine R.ext rfl rfl rfl ?_
 refine R.ext rfl rfl rfl ?_
 refine aA ?_
 refine aA ?_
 refine nN (T.has Has.nil ?_)
 refine T.ret ?_
 have hM : k_1b a0 a1 = (a3.1, a3.2) := by subst c0; rw [k_1b, LR.seq_go]
 exact fin2L (v := .int .i64 (a3.1)) (v' := .bool (a3.2)) [] rfl rfl rfl (List.Sublist.refl _) ⟨rfl, by first | rw [hM] | rfl⟩
def k_3a (yl1 : ZR) : List Int → Unit → List (Int × Int)
  | [], sl2 => []
  | yl2 :: ysl2, sl2 => if ((kindG yl2) : Int) = 3 then (((yl1.1, yl2)) :: (k_3a yl1 ysl2 ())) else (k_3a yl1 ysl2 ())
def k_44  : List (ZR) → Unit → List (Int × Int)
  | [], sl1 => []
  | yl1 :: ysl1, sl1 => (k_3a yl1 yl1.2.1 ()) ++ (k_44 ysl1 ())
def k_6c (q0 : ZS) : List (Int × Int) :=
  (k_44 q0.2.2.2 ()) ++ []
theorem state_pairs_1_c (H : Heap) (d4 : Nat) (q0 : ZS) (c1 : Value) (c2 : RdS slotE H c1 q0.2.1.2.1) (c3 : Value) (c4 : RdS (intE .i64) H c3 q0.2.1.2.2) (c5 : Value) (c6 : RdS relationE H c5 q0.2.2.1) (c7 : Value) (b3 : RdS rowE H c7 q0.2.2.2) (hb0 : H d4 = some (.cells (c24 q0.1 [.int .i64 q0.2.1.1, c1, c3, c5, c7]).toArray 31)) : Iter Tryz.prog (.func (.func 130) #[] ([.pointer (some ⟨d4, 0, none⟩)] : List Value).toArray) Y178 H (k_6c q0) := by
 intro l J Jx H1 Lc s1 hJ hJx hY h0
 obtain ⟨Aq0_25, cq0_25, rfl, e5, e6, c2⟩ := c2.shape
 obtain ⟨Aq0_26, cq0_26, rfl, e7, e8, c4⟩ := c4.shape
 obtain ⟨Aq0_27, cq0_27, rfl, e9, f0, c6⟩ := c6.shape
 obtain ⟨c8, c9, rfl, f1, f2, b3⟩ := b3.shape
 refine Fc.of_body (N := 34) func130 rfl kA rfl rfl ?_
 intro w0
 refine sR (fA underlying31 rfl sizeOf29 ?_)
 refine R.ldH isAgg29 rfl rfl (s1 _ _ hb0) rfl ?_
 refine R.len underlying29 rfl rfl ?_
 refine mA ?_
 refine nN (T.block (T.loop (ι := Nat × (List (Int × Int)) × Own) (fun ⟨a4, a2, b5⟩ H' L' ds' => a4 ≤ q0.2.2.2.length ∧ Has L' (b5) ∧ J a2 H' b5 ∧ a2 ++ k_44 (q0.2.2.2.drop a4) () = k_44 q0.2.2.2 ()) (fun ⟨a4, a2, b5⟩ => [(10, .int .i64 (a4 : Int)), (0, yieldv l), (8, .slice c8 q0.2.2.2.length c9), (9, .int .i64 (q0.2.2.2.length : Int))]) (fun ⟨a4, a2, b5⟩ => q0.2.2.2.length - a4) (0, [], Lc) ?_ ?_ ?_))
 exact ⟨oA, (Has.refl _), (by simpa using h0), (by rfl)⟩
 exact ⟨rfl, rfl, rfl, rfl, trivial⟩
 intro ⟨a4, a2, b5⟩ σ_l1 H_l1 L_l1 ds_l1 d0 b6
 obtain ⟨hkl1, b6⟩ := b6
 obtain ⟨hLl1, e0, d1⟩ := b6
 refine T.has hLl1 ?_
 refine sR (R.lss rfl rfl rfl ?_)
 refine nN (T.seq (T.condD rfl (fun c11 => ?_) (fun c11 => ?_)))
 have hltl1 : a4 < q0.2.2.2.length := by omega
 obtain ⟨a0, d2⟩ := getk (xs := q0.2.2.2) (k := a4) oA
 refine T.skip (Post.thnN (T.seq ?_))
 refine T.block (sR ?_)
 obtain ⟨b12, o12, i12, k12⟩ := RdS.elem (b3.mono (s1.trans d0)) d2
 obtain ⟨l12, g12, k12⟩ := k12
 obtain ⟨z12_1, z12_2, rfl, b7, d5⟩ := g12
 obtain ⟨a5, a6, rfl, m12_1, n12_1, b7⟩ := b7.shape
 obtain ⟨b0, b1, rfl, m12_2, n12_2, d5⟩ := d5.shape
 refine R.ixp underlying29 sizeOf47 rfl rfl rfl oA i12 ?_
 refine R.ldK (l := [.int .i64 (a0.1), sl a5 a0.2.1 a6, sl b0 a0.2.2 b1]) isAgg47 sizeOf47 rfl rfl k12 rfl ?_
 refine R.alloc zeroValue47 rfl ?_
 intro b4
 refine stY (l := [.int .i64 (a0.1), sl a5 a0.2.1 a6, sl b0 a0.2.2 b1]) (new := [.int .i64 (a0.1), sl a5 a0.2.1 a6, sl b0 a0.2.2 b1]) .hd sizeOf47 rfl rfl ?_
 refine TL.shut .hd ?_
 intro e3 b2 e4
 have d6 : e3 b4 = some (.cells #[.int .i64 (a0.1), .slice a5 a0.2.1.length a6, .slice b0 a0.2.2.length b1] 47) := shut1 e4
 refine nN (sR (fA underlying47 rfl sizeOf44 ?_))
 refine R.ldH isAgg44 rfl rfl d6 rfl ?_
 refine R.len underlying44 rfl rfl ?_
 refine mA ?_
 refine nN (T.block (T.loop (ι := Nat × (List (Int × Int)) × Own) (fun ⟨a3, a1, a9⟩ H' L' ds' => a3 ≤ a0.2.1.length ∧ Has L' (a9) ∧ J (a2 ++ a1) H' a9 ∧ a1 ++ k_3a a0 (a0.2.1.drop a3) () = k_3a a0 a0.2.1 ()) (fun ⟨a3, a1, a9⟩ => [(17, .int .i64 (a3 : Int)), (0, yieldv l), (4, .pointer (some ⟨b4, 0, none⟩)), (8, .slice c8 q0.2.2.2.length c9), (9, .int .i64 (q0.2.2.2.length : Int)), (10, .int .i64 (a4 : Int)), (15, .slice a5 a0.2.1.length a6), (16, .int .i64 (a0.2.1.length : Int))]) (fun ⟨a3, a1, a9⟩ => a0.2.1.length - a3) (0, [], b5) ?_ ?_ ?_))
 exact ⟨oA, (Has.refl _), (by simpa using (hJ _ _ _ _ b2 e0)), (by rfl)⟩
 exact ⟨rfl, rfl, rfl, rfl, rfl, rfl, rfl, rfl, trivial⟩
 intro ⟨a3, a1, a9⟩ σ_l2 H_l2 L_l2 ds_l2 a8 b8
 obtain ⟨hkl2, b8⟩ := b8
 obtain ⟨hLl2, d3, b9⟩ := b8
 refine T.has hLl2 ?_
 refine sR (R.lss rfl rfl rfl ?_)
 refine nN (T.seq (T.condD rfl (fun c18 => ?_) (fun c18 => ?_)))
 have hltl2 : a3 < a0.2.1.length := by omega
 obtain ⟨a7, c0⟩ := getk (xs := a0.2.1) (k := a3) oA
 refine T.skip (Post.thnN (T.seq ?_))
 refine T.block (sR ?_)
 obtain ⟨b19, o19, i19, k19⟩ := RdS.elem (b7.mono (b2.trans a8)) c0
 obtain ⟨l19, g19, k19⟩ := k19
 obtain rfl : l19 = [.int .u64 a7] := g19
 refine R.ixp underlying44 sizeOf39 rfl rfl rfl oA i19 ?_
 refine R.ldC isAgg39 rfl rfl (k19 0 _ rfl) ?_
 refine aA ?_
 refine nN (sR (mA ?_))
 refine R.callv rfl rfl rfl (kindG_c _ a7) ?_
 refine R.eql rfl rfl rfl ?_
 refine mA ?_
 refine TL.gsplitD 24 rfl (fun d7 => ?_) (fun d7 => ?_)
 refine mA ?_
 refine fA underlying47 rfl sizeOf3 ?_
 refine R.ldH isAgg3 rfl rfl (a8 _ _ d6) rfl ?_
 refine mA ?_
 have d8 : (a1 ++ [(a0.1, a7)]) <+: k_3a a0 a0.2.1 () := by rw [← b9, k_8 c0, k_3a]; rw [if_pos d7]; exact (pf_app pf_one)
 have d9 : (a2 ++ (a1 ++ [(a0.1, a7)])) <+: k_44 q0.2.2.2 () := by rw [← d1, k_8 d2, k_44]; exact (pf_app (pf_l d8))
 have e1 : (a2 ++ (a1 ++ [(a0.1, a7)])) <+: k_6c q0 := by rw [k_6c]; exact (pf_l d9)
 have e2 : ((a2 ++ a1) ++ [(a0.1, a7)]) <+: k_6c q0 := by simpa [List.append_assoc] using e1
 refine TL.callT 0 rfl rfl rfl (hY ((a2 ++ a1)) ((a0.1, a7)) _ H_l2 a9 (d0.trans (b2.trans a8)) e2 d3 rfl) ?_
 intro v29 H29 L29 s29 q29
 rcases q29 with ⟨rfl, j29⟩ | ⟨rfl, j29⟩
 refine R.not rfl rfl ?_
 refine R.pkTE rfl rfl cA ?_
 refine nN (T.condN rfl ?_)
 refine T.skip (Post.blkN ?_)
 refine id (Post.thnN (T.region ?_))
 refine R.addI rfl rfl rfl oA ?_
 refine mA ?_
 refine nN ?_
 exact ⟨(a3 + 1, (a1 ++ [(a0.1, a7)]), L29), (a8.trans s29), ⟨oA, (Has.refl _), (by simpa [List.append_assoc] using j29), (by (rw [← b9, k_8 c0, k_3a]; rw [if_pos d7]) <;> simp)⟩, by show a0.2.1.length - (a3 + 1) < a0.2.1.length - a3; omega, rfl, rfl, rfl, rfl, rfl, rfl, rfl, rfl, trivial⟩
 refine R.not rfl rfl ?_
 refine R.pkTE rfl rfl cA ?_
 refine nN (T.condY rfl ?_)
 refine T.ret (Post.blkR (Post.thnR (Post.thnR (Post.blkR (Post.blkR (Post.thnR (Post.thnR (Post.blkR ?_))))))))
 exact fin0L L29 rfl (List.Sublist.refl _) (.inr ⟨(a2 ++ a1), (a0.1, a7), e2, j29⟩)
 refine oF ?_
 refine oF ?_
 refine oF ?_
 refine oF ?_
 refine oF ?_
 refine oF ?_
 refine R.pkFE rfl rfl cA ?_
 refine nN (T.condN rfl ?_)
 refine T.skip (Post.blkN ?_)
 refine id (Post.thnN (T.region ?_))
 refine R.addI rfl rfl rfl oA ?_
 refine mA ?_
 refine nN ?_
 exact ⟨(a3 + 1, a1, a9), a8, ⟨oA, (Has.refl _), (by simpa [List.append_assoc] using d3), (by (rw [← b9, k_8 c0, k_3a]; rw [if_neg d7]) <;> simp)⟩, by show a0.2.1.length - (a3 + 1) < a0.2.1.length - a3; omega, rfl, rfl, rfl, rfl, rfl, rfl, rfl, rfl, trivial⟩
 refine T.exit (Post.thnE (Post.thnE (Post.blkX ?_)))
 have hEl2 : k_3a a0 a0.2.1 () = a1 := (by rw [← b9, show a3 = a0.2.1.length by omega, List.drop_length, k_3a] <;> simp)
 refine id (Post.blkN ?_)
 refine id (Post.thnN (T.region ?_))
 refine R.addI rfl rfl rfl oA ?_
 refine mA ?_
 refine nN ?_
 exact ⟨(a4 + 1, (a2 ++ a1), a9), (d0.trans (b2.trans a8)), ⟨oA, (Has.refl _), (by simpa [List.append_assoc] using d3), (by (rw [← d1, k_8 d2, k_44]; rw [hEl2]) <;> simp)⟩, by show q0.2.2.2.length - (a4 + 1) < q0.2.2.2.length - a4; omega, rfl, rfl, rfl, rfl, trivial⟩
 refine T.exit (Post.thnE (Post.thnE (Post.blkX ?_)))
 have hEl1 : k_44 q0.2.2.2 () = a2 := (by rw [← d1, show a4 = q0.2.2.2.length by omega, List.drop_length, k_44] <;> simp)
 refine id ?_
 have hM : k_6c q0 = a2 := by rw [k_6c, hEl1] <;> simp
 exact fin0N b5 rfl (List.Sublist.refl _) (.inl (by rw [hM]; exact e0))
def k_6b (a0 : ZS) : (List (Int × Int)) :=
  (k_6c a0)
theorem state_pairs_c (H : Heap) (a0 : ZS) (a6 : Value) (a2 : RdS slotE H a6 a0.2.1.2.1) (a7 : Value) (a3 : RdS (intE .i64) H a7 a0.2.1.2.2) (a8 : Value) (a4 : RdS relationE H a8 a0.2.2.1) (a9 : Value) (a5 : RdS rowE H a9 a0.2.2.2) : Fp Tryz.prog (fnv 55) [.agg (c24 a0.1 [.int .i64 a0.2.1.1, a6, a7, a8, a9]).toArray] H (fun v' H' => ∃ b0, v' = .func (.func 130) #[] b0 ∧ Iter Tryz.prog (.func (.func 130) #[] b0) Y178 H' (k_6b a0)) := by
 refine Fc.of_body (N := 4) func55 rfl kA rfl rfl ?_
 intro w0
 obtain ⟨b2, b3, rfl, c3, c4, a2⟩ := a2.shape
 obtain ⟨b4, b5, rfl, c5, c6, a3⟩ := a3.shape
 obtain ⟨b6, b7, rfl, c7, c8, a4⟩ := a4.shape
 obtain ⟨b8, b9, rfl, c9, d0, a5⟩ := a5.shape
 refine sR (R.box rfl cA ?_)
 intro b1
 refine aA ?_
 refine TL.shut .hd ?_
 intro c0 a1 c1
 have c2 : c0 b1 = some (.cells (c24 a0.1 [.int .i64 (a0.2.1.1), .slice b2 a0.2.1.2.1.length b3, .slice b4 a0.2.1.2.2.length b5, .slice b6 a0.2.2.1.length b7, .slice b8 a0.2.2.2.length b9]).toArray 31) := shut1 c1
 refine nN (sR (R.mkf (cs := [_]) rfl rfl ?_))
 refine aA ?_
 refine nN (T.has Has.nil ?_)
 refine T.ret ?_
 have hM : k_6b a0 = (k_6c a0) := by rw [k_6b]
 exact fin1L (v := .func (.func 130) #[] ([.pointer (some ⟨b1, 0, none⟩)] : List Value).toArray) [] rfl rfl (List.Sublist.refl _) ⟨rfl, ([.pointer (some ⟨b1, 0, none⟩)] : List Value).toArray, by first | rw [hM] | rfl, by rw [hM]; exact (state_pairs_1_c _ b1 a0 _ (a2.mono a1) _ (a3.mono a1) _ (a4.mono a1) _ (a5.mono a1) c2)⟩
theorem pairs_l2 (r : Rw) : ∀ (l : List Int), (k_3a r l ()).length ≤ l.length
  | [] => Nat.zero_le _
  | y :: ys => by
    have h := pairs_l2 r ys
    rw [k_3a]
    split
    · rw [List.length_cons, List.length_cons]; omega
    · rw [List.length_cons]; omega
theorem pairs_l1 : ∀ (l : List Rw), (k_44 l ()).length ≤ idsN l
  | [] => Nat.zero_le _
  | y :: ys => by
    have h := pairs_l1 ys
    have h2 := pairs_l2 y y.2.1
    rw [k_44, List.length_append]
    show _ ≤ y.2.1.length + idsN ys
    omega
theorem pairs_ids (a : Sta) (r : List (Int × Int)) (e : r = k_6b a) : r.length ≤ idsN a.2.2.2 := by
  rw [e]
  unfold k_6b k_6c
  first | exact pairs_l1 _ | (rw [List.append_nil]; exact pairs_l1 _)
def k_6f (a1 : Int) : List (Int × Int) → ((List (Int × Int))) → (List (Int × Int))
  | [], sr1 => sr1
  | yr1 :: ysr1, sr1 => LR.seq (k_1 yr1.2) (fun r16 => if r16.1 = a1 then (k_6f a1 ysr1 ((sr1 ++ [(yr1.1, r16.2)]))) else (k_6f a1 ysr1 sr1))
def k_3c (a0 : ZS) (a1 : Int) : (List (Int × Int)) :=
  LR.seq (k_6b a0) (fun r11 => LR.seq (k_6f a1 r11 []) (fun or1 => or1))
theorem state_links_c (H : Heap) (a0 : ZS) (d0 : Value) (b4 : RdS slotE H d0 a0.2.1.2.1) (d1 : Value) (b6 : RdS (intE .i64) H d1 a0.2.1.2.2) (d2 : Value) (b7 : RdS relationE H d2 a0.2.2.1) (d3 : Value) (b8 : RdS rowE H d3 a0.2.2.2) (a1 : Int) (hi : idsN a0.2.2.2 ≤ 1000) : Fc Tryz.prog (fnv 61) [.agg (c24 a0.1 [.int .i64 a0.2.1.1, d0, d1, d2, d3]).toArray, .int .i64 a1] H [] (fun v' H' L' => ∃ e3 e4, v' = e3 ∧ L' = [e4] ∧ OwnS pairE 71 H' e3 (k_3c a0 a1) e4) := by
 refine Fc.of_body (N := 29) func61 rfl kA rfl rfl ?_
 intro w0
 obtain ⟨b9, c0, rfl, f2, f3, b4⟩ := b4.shape
 obtain ⟨c1, c2, rfl, f4, f5, b6⟩ := b6.shape
 obtain ⟨c3, c4, rfl, f6, f7, b7⟩ := b7.shape
 obtain ⟨c5, c6, rfl, f8, f9, b8⟩ := b8.shape
 refine sR (R.box rfl cA ?_)
 intro b2
 refine R.box rfl cA ?_
 intro b3
 refine aA ?_
 refine TL.shut .hd ?_
 intro e6 b1 e7
 have e8 : e6 b3 = some (.cells #[.int .i64 a1] 3) := shut1 e7
 refine TL.shut .hd ?_
 intro e9 b0 f0
 have f1 : e9 b2 = some (.cells (c24 a0.1 [.int .i64 (a0.2.1.1), .slice b9 a0.2.1.2.1.length c0, .slice c1 a0.2.1.2.2.length c2, .slice c3 a0.2.2.1.length c4, .slice c5 a0.2.2.2.length c6]).toArray 31) := shut1 f0
 refine nN (sR (R.alloc zeroValue56 rfl ?_))
 intro b5
 refine nN (T.seq (sR (R.ldXH (cs := (c24 a0.1 [.int .i64 (a0.2.1.1), .slice b9 a0.2.1.2.1.length c0, .slice c1 a0.2.1.2.2.length c2, .slice c3 a0.2.2.1.length c4, .slice c5 a0.2.2.2.length c6])) (l := (c24 a0.1 [.int .i64 (a0.2.1.1), .slice b9 a0.2.1.2.1.length c0, .slice c1 a0.2.1.2.2.length c2, .slice c3 a0.2.2.1.length c4, .slice c5 a0.2.2.2.length c6])) isAgg31 sizeOf31 rfl rfl f1 rfl rfl ?_)))
 obtain ⟨d4, d6⟩ : ∃ r, r = (k_6b a0) := ⟨_, rfl⟩
 refine R.callp rfl rfl rfl (state_pairs_c _ a0 _ (b4.mono (b1.trans b0)) _ (b6.mono (b1.trans b0)) _ (b7.mono (b1.trans b0)) _ (b8.mono (b1.trans b0))) ?_
 intro v11 H11 s11 q11
 rw [← d6] at q11
 obtain ⟨g0, rfl, e1⟩ := q11
 have tp11 := pairs_ids _ _ d6
 refine nN (T.block (T.rangeFunc (xs := d4) rfl rfl (enters_of func130 kA rfl) e1 (fun _ _ _ h => by subst h; rfl) rfl (fun pre H' L' => ∃ (a5 : Value) (a2 : List (Int × Int)) (a3 : Chunk), Has L' [[(b5, .cells #[a5] 56)], a3] ∧ OwnS pairE 71 H' a5 a2 a3 ∧ a2.length ≤ pre.length ∧ k_6f a1 (d4.drop pre.length) a2 = k_6f a1 d4 []) (fun _ _ _ _ => False) (fun pre H H' L hle ⟨a5, a2, a3, hL, a4, hB0, hQ⟩ => ⟨a5, a2, a3, hL, (a4.mono hle), hB0, hQ⟩) (fun _ _ _ _ _ _ h => h) ?_ ?_ ?_ ?_))
 exact ⟨.slice none 0 0, [], [], (Has.cons .hd (Has.none Has.nil)), OwnS.nil, bA, (by rfl)⟩
 intro lr1 rr1 wr1 e0 a6 vsr1 Hr1 Lr1 sr1 c8 c7 hYr1
 obtain ⟨a5, a2, a3, d7, a4, e5, c9⟩ := c7
 obtain ⟨a8, a9, rfl, e2, d8⟩ := OwnS.shape a4
 obtain rfl := hYr1
 refine T.has d7 ?_
 have hlpr1 : e0.length + 1 ≤ d4.length := by have h0 := c8.length_le; simpa using h0
 refine sR (aA ?_)
 refine nN (T.region (aA ?_))
 refine TL.nil (onlyN.mk ?_)
 refine T.block (sR (mA ?_))
 obtain ⟨a7, d9⟩ : ∃ r, r = (k_1 a6.2) := ⟨_, rfl⟩
 refine R.callv (v := .tuple #[.int .i64 a7.1, .int .i64 a7.2]) rfl rfl rfl (by rw [d9]; exact k_57 _ (a6.2)) ?_
 refine mA ?_
 refine R.ext rfl rfl rfl ?_
 refine R.ext rfl rfl rfl ?_
 refine aA ?_
 refine aA ?_
 refine nN (sR (mA ?_))
 refine R.ldH isAgg3 rfl rfl ((b0.trans (s11.trans sr1)) _ _ e8) rfl ?_
 refine R.eql rfl rfl rfl ?_
 refine nN (T.condD rfl (fun d5 => ?_) (fun d5 => ?_))
 refine T.set 21 (.bool true) (congrArg Value.bool (decide_eq_true d5)) ?_
 refine T.region (R.ld isAgg56 rfl rfl .hd rfl ?_)
 refine mA ?_
 refine mA ?_
 refine R.bld (cs := [.int .i64 (a6.1), .int .i64 (a7.2)]) rfl (fun _ => by kernel_rfl) ?_
 refine R.bs (e := 71) (cs := [.int .i64 (a6.1), .int .i64 (a7.2)]) rfl (fun _ => by kernel_rfl) ?_
 intro b26
 have w26 := lit1 (E := pairE) (e := 71) (H := Hr1) (b := b26) (y := (a6.1, a7.2)) (a := [.int .i64 (a6.1), .int .i64 (a7.2)]) rfl
 obtain ⟨k27, y27, r27⟩ := Src.ownA w26
 refine R.app (E := pairE) (e := 71) (xs := a2) (ys := [(a6.1, a7.2)]) Tryz_ty56 rfl rfl rfl a4 (.tl (.tl .hd)) (r27 _ .hd) y27 lA lA ?_
 intro v27 c27 w27
 obtain ⟨A27, p27, rfl, m27, n27⟩ := OwnS.shape w27
 refine TL.del (.tl .hd) ?_
 refine stY (l := [sl A27 (a2 ++ [(a6.1, a7.2)]) p27]) (new := [sl A27 (a2 ++ [(a6.1, a7.2)]) p27]) (.tl .hd) sizeOf56 rfl (cells1 rfl) ?_
 refine TL.nil (Post.blkN ?_)
 refine id ?_
 exact ⟨sl A27 (a2 ++ [(a6.1, a7.2)]) p27, (a2 ++ [(a6.1, a7.2)]), c27, (Has.cons (.tl .hd) (Has.cons .hd Has.nil)), w27, bA, (by subst d9; rw [← c9, drop_pre c8, k_6f]; rw [LR.seq_go, if_pos d5])⟩
 refine T.set 21 (.bool false) (congrArg Value.bool (decide_eq_false d5)) ?_
 refine T.skip (Post.blkN ?_)
 refine id ?_
 exact ⟨sl a8 a2 a9, a2, a3, (Has.cons .hd (Has.cons .hd Has.nil)), a4, bA, (by subst d9; rw [← c9, drop_pre c8, k_6f]; rw [LR.seq_go, if_neg d5])⟩
 intro Dr1 Hr1 Lr1 sr1 c7
 obtain ⟨a5, a2, a3, d7, a4, e5, c9⟩ := c7
 obtain ⟨a8, a9, rfl, e2, d8⟩ := OwnS.shape a4
 have hEr1 : k_6f a1 d4 [] = a2 := by rw [← c9, List.drop_length, k_6f]
 refine id (Post.blkN ?_)
 refine id (Post.thnN (T.has d7 ?_))
 refine sR (R.ld isAgg56 rfl rfl .hd rfl ?_)
 refine aA ?_
 refine nN (T.has (Has.cons (.tl .hd) Has.nil) ?_)
 refine T.ret ?_
 have hM : k_3c a0 a1 = a2 := by subst d6; rw [k_3c, LR.seq_go, hEr1, LR.seq_go]
 exact fin1L (v := sl a8 a2 a9) [a3] rfl rfl (List.Sublist.refl _) ⟨sl a8 a2 a9, a3, by first | rw [hM] | rfl, rfl, by rw [hM]; exact a4⟩
 intro Dr1 cr1 e0 a6 Hr1 Lr1 sr1 c8 c7
 exact c7.elim
theorem links_len (a : Sta) (n : Int) (r : List (Int × Int)) (e : r = k_3c a n) : r.length ≤ idsN a.2.2.2 := by
  have h1 := pairs_ids a _ rfl
  have key : ∀ (l acc : List (Int × Int)), (k_6f n l acc).length ≤ acc.length + l.length := by
    intro l
    induction l with
    | nil => intro acc; exact Nat.le_refl _
    | cons y ys ih =>
      intro acc
      rw [k_6f, LR.seq_go]
      split
      · have := ih (acc ++ [(y.1, (k_1 y.2).2)]); rw [List.length_append] at this; simp only [List.length_cons, List.length_nil] at this ⊢; omega
      · have := ih acc; simp only [List.length_cons]; omega
  rw [e]
  unfold k_3c
  simp only [LR.seq_go]
  have := key (k_6b a) []
  simp only [List.length_nil] at this
  omega
end Go.SX
namespace Go.SX.CH
open Go Go.Proofs Go.Proofs.Tryz
theorem k_2f : Tryz.prog.follows .mixedOrders = true := by kernel_rfl
theorem k_aa : TyE Tryz.prog 25 3 (intE .i64) 8 := TyE.mk' (z := .int .i64 0) underlying25 (by kernel_rfl) rfl (by decide)
theorem k_2b : TyE Tryz.prog 44 39 (intE .u64) 8 := TyE.mk' (z := .int .u64 0) underlying44 (by kernel_rfl) rfl (by decide)
theorem Tryz_ty56 : TyE Tryz.prog 56 71 pairE 16 := TyE.mk' (z := .agg #[.int .i64 0, .int .i64 0]) underlying56 (by kernel_rfl) rfl (by decide)
theorem indexI25_c (H : Heap) (v : Value) (xs : List Int) (x : Int) (hr : RdS (intE .i64) H v xs) : Fv Tryz.prog (fnv 103) [v, .int .i64 x] H (.int .i64 (fidxI (fun y => decide (x = y)) xs)) := by
 refine Fc.of_body (N := 19) func103 rfl kA rfl rfl ?_
 intro w0
 obtain ⟨A, c, rfl, hc1, hc2, hr⟩ := hr.shape
 refine sR (aA ?_)
 refine nN (T.seq (sR (mA ?_)))
 refine R.len underlying25 rfl rfl ?_
 refine mA ?_
 refine nN (T.block (T.loop (ι := Nat) (fun k H' L' ds' => k ≤ xs.length ∧ ∀ (j : Nat) z, j < k → xs[j]? = some z → decide (x = z) = false) (fun k => [(0, .slice A xs.length c), (1, .int .i64 x), (7, .int .i64 xs.length), (8, .int .i64 k)]) (fun k => xs.length - k) (0) ?_ ?_ ?_))
 exact ⟨Nat.zero_le _, fun j z h => absurd h oA⟩
 exact ⟨rfl, rfl, rfl, rfl, trivial⟩
 intro k σ0 H_0 L_0 ds_0 s_0 hI_0
 obtain ⟨hk, hw⟩ := hI_0
 refine sR (R.lss rfl rfl rfl ?_)
 refine nN (T.seq (T.condD rfl (fun c9 => ?_) (fun c9 => ?_)))
 have hlt : k < xs.length := by omega
 obtain ⟨a, hx⟩ := getk hlt
 refine T.skip (Post.thnN (T.seq ?_))
 refine T.block (sR (mA ?_))
 refine aA ?_
 refine nN (sR (mA ?_))
 refine mA ?_
 refine mA ?_
 obtain ⟨b14, o14, i14, e14⟩ := (hr.mono s_0).elem (hx)
 refine R.ixp underlying25 sizeOf3 rfl rfl rfl oA i14 ?_
 refine R.ldC isAgg3 rfl rfl (e14).int ?_
 refine R.eql rfl rfl rfl ?_
 refine nN (T.condD rfl (fun c16 => ?_) (fun c16 => ?_))
 refine sR (mA ?_)
 refine aA ?_
 refine nN (T.ret (Post.blkR (Post.thnR (Post.thnR (Post.blkR (Post.thnR ?_))))))
 exact fin1 rfl rfl ⟨rfl, congrArg (Value.int .i64) (fidxI_at (p := fun y => decide (x = y)) hx (decide_eq_true c16) hw).symm⟩
 refine T.skip (Post.blkN ?_)
 refine id (Post.thnN (T.region ?_))
 refine R.addI rfl rfl rfl oA ?_
 refine mA ?_
 refine nN ?_
 exact ⟨k + 1, s_0, ⟨by omega, fun j z h1 h2 => if e : j = k then by subst e; rw [hx] at h2; injection h2 with h2; subst h2; exact decide_eq_false c16 else hw j z oA h2⟩, by omega, ⟨rfl, rfl, rfl, rfl, trivial⟩⟩
 refine T.exit (Post.thnE (Post.thnE (Post.blkX ?_)))
 refine id (Post.thnN (sR ?_))
 refine aA ?_
 refine nN (T.ret ?_)
 exact fin1 rfl rfl ⟨rfl, congrArg (Value.int .i64) (fidxI_none (p := fun y => decide (x = y)) (fun j z h => hw j z (by have := (List.getElem?_eq_some_iff.1 h).1; omega) h)).symm⟩
theorem containsI25_c (H : Heap) (v : Value) (xs : List Int) (x : Int) (hr : RdS (intE .i64) H v xs) : Fv Tryz.prog (fnv 40) [v, .int .i64 x] H (.bool (xs.any (fun y => decide (x = y)))) := by
 refine Fc.of_body (N := 9) func40 rfl kA rfl rfl ?_
 intro w0
 refine sR (aA ?_)
 refine nN (sR (mA ?_))
 refine mA ?_
 refine R.callv rfl rfl rfl (indexI25_c _ _ _ _ hr) ?_
 refine R.geq rfl rfl rfl ?_
 refine aA ?_
 refine nN (T.ret ?_)
 exact fin1 rfl rfl ⟨rfl, congrArg Value.bool (by rw [Bool.eq_iff_iff, decide_eq_true_eq]; exact fidxI_ge)⟩
theorem isNaNcI3_c (H : Heap) (x : Int) : Fv Tryz.prog (fnv 220) [.int .i64 x] H (.bool false) := by
 refine Fc.of_body (N := 6) func220 rfl kA rfl rfl ?_
 intro w0
 refine sR (aA ?_)
 refine nN (sR (mA ?_))
 refine mA ?_
 refine R.neq rfl rfl rfl ?_
 refine aA ?_
 refine nN (T.ret ?_)
 exact fin1 rfl rfl ⟨rfl, congrArg Value.bool (by simp)⟩
theorem compareI3_c (H : Heap) (x y : Int) : Fv Tryz.prog (fnv 200) [.int .i64 x, .int .i64 y] H (.int .i64 (cmpI x y)) := by
 refine Fc.of_body (N := 20) func200 rfl kA rfl rfl ?_
 intro w0
 refine sR (aA ?_)
 refine nN (sR (mA ?_))
 refine R.callv rfl rfl rfl (isNaNcI3_c _ _) ?_
 refine aA ?_
 refine nN (sR (mA ?_))
 refine R.callv rfl rfl rfl (isNaNcI3_c _ _) ?_
 refine aA ?_
 refine nN (T.seq (sR (mA ?_)))
 refine nN (T.condN rfl ?_)
 refine T.skip (Post.thnN (T.seq ?_))
 refine sR (mA ?_)
 refine nN (T.condN rfl ?_)
 refine T.skip (Post.thnN (T.seq ?_))
 refine sR (mA ?_)
 refine mA ?_
 refine R.lss rfl rfl rfl ?_
 refine nN (T.condD rfl (fun c16 => ?_) (fun c16 => ?_))
 refine sR (aA ?_)
 refine nN (T.ret (Post.thnR ?_))
 rotate_left
 refine T.skip (Post.thnN (T.seq ?_))
 refine sR (mA ?_)
 refine mA ?_
 refine R.gtr rfl rfl rfl ?_
 refine nN (T.condD rfl (fun c19 => ?_) (fun c19 => ?_))
 refine sR (aA ?_)
 refine nN (T.ret (Post.thnR ?_))
 rotate_left
 refine T.skip (Post.thnN (sR ?_))
 refine aA ?_
 refine nN (T.ret ?_)
 rotate_left
 all_goals (
  exact fin1 rfl rfl ⟨rfl, congrArg (Value.int .i64) (by unfold cmpI; split <;> (try split) <;> omega)⟩)
end Go.SX.CH
namespace Go.SX
open Go
abbrev Lk := Int × Int
def linkB (y : Lk) : Bool := decide (1 ≤ y.1) && decide (1 ≤ y.2) && decide (y.1 ≤ 1048578) && decide (y.2 ≤ 1048578)
def ltP (a b : Lk) : Prop := a.1 < b.1 ∨ a.1 = b.1 ∧ a.2 < b.2
instance (a b : Lk) : Decidable (ltP a b) := by unfold ltP; infer_instance
abbrev UpP (xs : List Lk) : Prop := xs.Pairwise ltP
def chainB (xs : List Lk) : Bool := decide (xs.length ≤ 2097152 ∧ (∀ y ∈ xs, linkB y = true) ∧ UpP xs)
theorem chainB_iff {xs : List Lk} : chainB xs = true ↔ xs.length ≤ 2097152 ∧ (∀ y ∈ xs, linkB y = true) ∧ UpP xs := by unfold chainB; simp
def cmpP (a b : Lk) : Int := if cmpI a.1 b.1 ≠ 0 then cmpI a.1 b.1 else cmpI a.2 b.2
theorem cmpP_lt {a b : Lk} : cmpP a b < 0 ↔ ltP a b := by
  unfold cmpP ltP cmpI
  repeat' split
  all_goals omega
theorem ltP_trans {a b c : Lk} (h : ltP a b) (h2 : ltP b c) : ltP a c := by unfold ltP at *; omega
theorem upP_get {xs : List Lk} (h : UpP xs) {i j : Nat} {a b : Lk} (hi : xs[i]? = some a) (hj : xs[j]? = some b) (hij : i < j) : ltP a b := by
  obtain ⟨h1, rfl⟩ := List.getElem?_eq_some_iff.1 hi
  obtain ⟨h2, rfl⟩ := List.getElem?_eq_some_iff.1 hj
  exact (List.pairwise_iff_getElem.1 h) i j h1 h2 hij
def orI (xs : List Int) : Int := (xs.find? (fun y => decide (y ≠ 0))).getD 0
theorem orI_two (a b : Int) : orI [a, b] = if a ≠ 0 then a else b := by
  unfold orI
  by_cases h : a = 0
  · subst h
    by_cases h2 : b = 0
    · subst h2; rfl
    · simp [h2]
  · simp [h]
theorem link_t {y : Lk} (h : (if y.2 < y.1 then y.2 else y.1) ≥ 1) : decide ((if y.1 < y.2 then y.2 else y.1) ≤ 1048578) = linkB y := by
  rw [Bool.eq_iff_iff]
  unfold linkB
  simp only [Bool.and_eq_true, decide_eq_true_eq]
  by_cases h1 : y.2 < y.1
  · rw [if_pos h1] at h
    rw [if_neg (by omega)]; omega
  · rw [if_neg h1] at h
    by_cases h2 : y.1 < y.2
    · rw [if_pos h2]; omega
    · rw [if_neg h2]; omega
theorem link_f {y : Lk} (h : ¬ (if y.2 < y.1 then y.2 else y.1) ≥ 1) : linkB y = false := by
  cases hl : linkB y with
  | false => rfl
  | true =>
    unfold linkB at hl
    simp only [Bool.and_eq_true, decide_eq_true_eq] at hl
    exfalso; apply h
    split <;> omega
theorem cmpP_or (a b : Lk) : orI [cmpI a.1 b.1, cmpI a.2 b.2] = cmpP a b := by rw [orI_two]; rfl
theorem zero_snoc {xs : List Int} {k : Nat} {y : Int} (hw : ∀ z ∈ xs.take k, z = 0) (hy : xs[k]? = some y) (h : y = 0) : ∀ z ∈ xs.take (k + 1), z = 0 := by
  intro z hz
  rw [List.take_add_one, hy] at hz
  rcases List.mem_append.1 hz with hz | hz
  · exact hw z hz
  · simp at hz; rw [hz]; exact h
theorem orI_at {xs : List Int} {k : Nat} {y : Int} (hy : xs[k]? = some y) (hw : ∀ z ∈ xs.take k, z = 0) (hne : y ≠ 0) : orI xs = y := by
  have h1 : xs = xs.take k ++ y :: xs.drop (k + 1) := by
    have h2 := List.getElem?_eq_some_iff.1 hy
    conv => lhs; rw [← List.take_append_drop k xs]
    rw [List.drop_eq_getElem_cons h2.1, h2.2]
  have h3 : (xs.take k).find? (fun y => decide (y ≠ 0)) = none := by
    rw [List.find?_eq_none]; intro z hz; simp [hw z hz]
  refine (congrArg orI h1).trans ?_
  unfold orI
  rw [List.find?_append, h3]
  simp [hne]
theorem orI_none {xs : List Int} (hw : ∀ z ∈ xs, z = 0) : orI xs = 0 := by
  unfold orI
  have h3 : xs.find? (fun y => decide (y ≠ 0)) = none := by
    rw [List.find?_eq_none]; intro z hz; simp [hw z hz]
  rw [h3]; rfl
theorem lk_not {xs : List Lk} {k : Nat} {y : Lk} (hy : xs[k]? = some y) (h : linkB y = false) : chainB xs = false := by
  cases hc : chainB xs with
  | false => rfl
  | true => have := (chainB_iff.1 hc).2.1 y (List.mem_of_getElem? hy); rw [h] at this; cases this
theorem lk_not_up {xs : List Lk} {k : Nat} {y z : Lk} (h0 : k ≠ 0) (hy : xs[k]? = some y) (hz : xs[k - 1]? = some z) (h : ¬ ltP z y) : chainB xs = false := by
  cases hc : chainB xs with
  | false => rfl
  | true => exact absurd (upP_get (chainB_iff.1 hc).2.2 hz hy (by omega)) h
theorem lk_long {xs : List Lk} (h : ¬ (xs.length : Int) ≤ 2097152) : chainB xs = false := by
  cases hc : chainB xs with
  | false => rfl
  | true => have := (chainB_iff.1 hc).1; omega
theorem upP_snoc {l : List Lk} {y : Lk} (h : UpP l) (hl : ∀ z, l.getLast? = some z → ltP z y) : UpP (l ++ [y]) := by
  unfold UpP
  rw [List.pairwise_append]
  refine ⟨h, by simp, fun x hx y' hy' => ?_⟩
  simp at hy'; subst hy'
  obtain ⟨j, hj⟩ := List.mem_iff_getElem?.1 hx
  have hjl := (List.getElem?_eq_some_iff.1 hj).1
  obtain ⟨z, hz⟩ := getk (xs := l) (k := l.length - 1) (by omega)
  have h1 := hl z (by rw [List.getLast?_eq_getElem?]; exact hz)
  rcases Nat.lt_or_ge j (l.length - 1) with h2 | h2
  · exact ltP_trans (upP_get h hj hz h2) h1
  · have : j = l.length - 1 := by omega
    subst this; rw [hj] at hz; injection hz with hz; rw [hz]; exact h1
theorem lk_snoc {xs : List Lk} {k : Nat} {y : Lk} (hy : xs[k]? = some y) (hm : ∀ x ∈ xs.take k, linkB x = true) (hu : UpP (xs.take k)) (h1 : linkB y = true) (h2 : k = 0 ∨ ∃ z, xs[k - 1]? = some z ∧ ltP z y) :
    (∀ x ∈ xs.take (k + 1), linkB x = true) ∧ UpP (xs.take (k + 1)) := by
  have e : xs.take (k + 1) = xs.take k ++ [y] := by rw [List.take_add_one, hy]; rfl
  rw [e]
  refine ⟨fun x hx => ?_, upP_snoc hu (fun z hz => ?_)⟩
  · rcases List.mem_append.1 hx with hx | hx
    · exact hm x hx
    · simp at hx; rw [hx]; exact h1
  · rcases h2 with rfl | ⟨z', h3, h4⟩
    · simp at hz
    · have hk := (List.getElem?_eq_some_iff.1 hy).1
      have hl : (xs.take k).length = k := by simp; omega
      rw [List.getLast?_eq_getElem?, hl] at hz
      rcases Nat.eq_zero_or_pos k with h0 | h0
      · subst h0; simp at hz
      · rw [List.getElem?_take_of_lt (by omega), h3] at hz
        injection hz with hz; rw [← hz]; exact h4
theorem lk_end {xs : List Lk} (hm : ∀ x ∈ xs, linkB x = true) (hu : UpP xs) : decide ((xs.length : Int) ≤ 2097152) = chainB xs := by
  unfold chainB
  have : ((xs.length : Int) ≤ 2097152) ↔ (xs.length ≤ 2097152 ∧ (∀ x ∈ xs, linkB x = true) ∧ UpP xs) := ⟨fun h => ⟨by omega, hm, hu⟩, fun h => by have := h.1; omega⟩
  exact decide_eq_decide.2 this
attribute [local semireducible] T TL
theorem R.ldP {fr : Fr} {x : Cx} {Q : Post} {σ : Env} {H : Heap} {L : Own} {ds : List Nat} {ol rest : List Oper} {d : Nat} {ty : TypeId} {p : String} {af : Array Edge} {g : Option (Nat × Bool)}
    {t : TypeId} {A : Operand} {b o : Nat} {y : Lk} (hagg : ∀ w, (isAgg t).run fr.P w = .ok true w) (hsz : ∀ w, (sizeOf t).run fr.P w = .ok 2 w) (hw : wan fr.N ol σ d g = true) (ha : ev σ A = .pointer (some ⟨b, o, none⟩))
    (he : ElemAt pairE H b o y) (h : TL fr x ol rest Q (upd σ d (.agg #[.int .i64 y.1, .int .i64 y.2])) H L ds) : TL fr x ol (⟨some d, .load t A, ty, p, af, g⟩ :: rest) Q σ H L ds :=
  R.ldA hagg hsz hw ha he (fun cs q => by
    obtain rfl : cs = [.int .i64 y.1, .int .i64 y.2] := q
    exact h)
def toL (xs : List Lk) (v : Int) : List Int := if chainB xs then (xs.filter (fun y => decide (y.1 = v))).map (·.2) else []
def fromL (xs : List Lk) (v : Int) : List Int := if chainB xs then (xs.filter (fun y => decide (y.2 = v))).map (·.1) else []
theorem filtP_yes {xs : List Lk} {p : Lk → Bool} {f : Lk → Int} {k : Nat} {y : Lk} (hy : xs[k]? = some y) (hp : p y = true) : ((xs.take (k + 1)).filter p).map f = ((xs.take k).filter p).map f ++ [f y] := by
  rw [List.take_add_one, hy, List.filter_append, List.map_append]; simp [hp]
theorem filtP_no {xs : List Lk} {p : Lk → Bool} {f : Lk → Int} {k : Nat} {y : Lk} (hy : xs[k]? = some y) (hp : p y = false) : ((xs.take (k + 1)).filter p).map f = ((xs.take k).filter p).map f := by
  rw [List.take_add_one, hy, List.filter_append, List.map_append]; simp [hp]
end Go.SX
namespace Go.SX.CH
open Go Go.Proofs Go.Proofs.Tryz
theorem link_c (H : Heap) (y : Lk) : Fv Tryz.prog (fnv 141) [.agg #[.int .i64 y.1, .int .i64 y.2]] H (.bool (linkB y)) := by
 refine Fc.of_body (N := 17) func141 rfl kA rfl rfl ?_
 intro w0
 refine sR (R.box rfl cA ?_)
 intro b1
 refine aA ?_
 refine nN (T.seq (T.shut .hd ?_))
 intro H1 s1 q1
 have h1 : H1 b1 = some (.cells #[.int .i64 y.1, .int .i64 y.2] 71) := shut1 q1
 refine T.region (fA underlying71 rfl sizeOf3 ?_)
 refine R.ldH isAgg3 rfl rfl (h1) rfl ?_
 refine fA underlying71 rfl sizeOf3 ?_
 refine R.ldH isAgg3 rfl rfl (h1) rfl ?_
 refine R.min2 rfl rfl rfl ?_
 refine R.geq rfl rfl rfl ?_
 refine mA ?_
 refine TL.gsplitD 9 rfl (fun g9 => ?_) (fun g9 => ?_)
 refine fA underlying71 rfl sizeOf3 ?_
 refine R.ldH isAgg3 rfl rfl (h1) rfl ?_
 refine fA underlying71 rfl sizeOf3 ?_
 refine R.ldH isAgg3 rfl rfl (h1) rfl ?_
 refine R.max2 rfl rfl rfl ?_
 refine R.leq rfl rfl rfl ?_
 refine R.pkTE rfl rfl cA ?_
 refine aA ?_
 refine nN (T.ret ?_)
 exact fin1 rfl rfl ⟨rfl, congrArg Value.bool (link_t g9)⟩
 refine oF ?_
 refine oF ?_
 refine oF ?_
 refine oF ?_
 refine oF ?_
 refine oF ?_
 refine R.pkFE rfl rfl cA ?_
 refine aA ?_
 refine nN (T.ret ?_)
 exact fin1 rfl rfl ⟨rfl, congrArg Value.bool (link_f g9).symm⟩
theorem or_c (H : Heap) (v : Value) (xs : List Int) (hr : RdS (intE .i64) H v xs) : Fv Tryz.prog (fnv 199) [v] H (.int .i64 (orI xs)) := by
 refine Fc.of_body (N := 18) func199 rfl kA rfl rfl ?_
 intro w0
 obtain ⟨A, c, rfl, hc1, hc2, hr⟩ := hr.shape
 refine sR (aA ?_)
 refine nN (sR (aA ?_))
 refine nN (T.seq (sR (mA ?_)))
 refine R.len underlying25 rfl rfl ?_
 refine mA ?_
 refine nN (T.block (T.loop (ι := Nat) (fun k H' L' ds' => k ≤ xs.length ∧ ∀ y ∈ xs.take k, y = 0) (fun k => [(3, .int .i64 0), (6, .slice A xs.length c), (7, .int .i64 xs.length), (8, .int .i64 k)]) (fun k => xs.length - k) (0) ?_ ?_ ?_))
 exact ⟨Nat.zero_le _, fun y h => by simp at h⟩
 exact ⟨rfl, rfl, rfl, rfl, trivial⟩
 intro k σ0 H_0 L_0 ds_0 s_0 hI_0
 obtain ⟨hk, hw⟩ := hI_0
 refine sR (R.lss rfl rfl rfl ?_)
 refine nN (T.seq (T.condD rfl (fun c9 => ?_) (fun c9 => ?_)))
 have hlt : k < xs.length := by omega
 obtain ⟨y, hy⟩ := getk hlt
 refine T.skip (Post.thnN (T.seq ?_))
 refine T.block (sR ?_)
 obtain ⟨b10, o10, i10, e10⟩ := (hr.mono s_0).elem (hy)
 refine R.ixp underlying25 sizeOf3 rfl rfl rfl oA i10 ?_
 refine R.ldC isAgg3 rfl rfl (e10).int ?_
 refine aA ?_
 refine nN (sR (mA ?_))
 refine mA ?_
 refine R.neq rfl rfl rfl ?_
 refine nN (T.condD rfl (fun c14 => ?_) (fun c14 => ?_))
 refine sR (mA ?_)
 refine aA ?_
 refine nN (T.ret (Post.blkR (Post.thnR (Post.thnR (Post.blkR (Post.thnR ?_))))))
 exact fin1 rfl rfl ⟨rfl, congrArg (Value.int .i64) (orI_at hy hw c14).symm⟩
 refine T.skip (Post.blkN ?_)
 refine id (Post.thnN (T.region ?_))
 refine R.addI rfl rfl rfl oA ?_
 refine mA ?_
 refine nN ?_
 exact ⟨k + 1, s_0, ⟨by omega, zero_snoc hw hy (Decidable.of_not_not c14)⟩, by omega, ⟨rfl, rfl, rfl, rfl, trivial⟩⟩
 refine T.exit (Post.thnE (Post.thnE (Post.blkX ?_)))
 refine id (Post.thnN (sR ?_))
 refine mA ?_
 refine aA ?_
 refine nN (T.ret ?_)
 have hkx : k = xs.length := by omega
 rw [hkx, List.take_length] at hw
 exact fin1 rfl rfl ⟨rfl, congrArg (Value.int .i64) (orI_none hw).symm⟩
theorem cmpP_c (H : Heap) (a b : Lk) : Fv Tryz.prog (fnv 142) [.agg #[.int .i64 a.1, .int .i64 a.2], .agg #[.int .i64 b.1, .int .i64 b.2]] H (.int .i64 (cmpP a b)) := by
 refine Fc.of_body (N := 17) func142 rfl kA rfl rfl ?_
 intro w0
 refine sR (R.box rfl cA ?_)
 intro b2
 refine R.box rfl cA ?_
 intro b3
 refine aA ?_
 refine nN (T.seq (T.shut (.tl .hd) ?_))
 intro H2 s2 q2
 refine T.shut .hd ?_
 intro H3 s3 q3
 have h2 : H3 b2 = some (.cells #[.int .i64 a.1, .int .i64 a.2] 71) := s3 _ _ (shut1 q2)
 have h3 : H3 b3 = some (.cells #[.int .i64 b.1, .int .i64 b.2] 71) := shut1 q3
 refine T.draw k_2f kA ?_
 refine vP 0 [1, 2, 3, 4, 5, 6, 7, 8, 9, 10, 11, 12] rfl underlying71 rfl sizeOf3 ?_
 refine vA 1 [2, 3, 4, 5, 6, 7, 8, 9, 10, 11, 12] rfl (fun _ _ h_ => R.ldH isAgg3 rfl rfl (h2) rfl (TL.nil h_)) ?_
 refine vP 2 [3, 4, 5, 6, 7, 8, 9, 10, 11, 12] rfl underlying71 rfl sizeOf3 ?_
 refine vA 3 [4, 5, 6, 7, 8, 9, 10, 11, 12] rfl (fun _ _ h_ => R.ldH isAgg3 rfl rfl (h3) rfl (TL.nil h_)) ?_
 refine vA 4 [5, 6, 7, 8, 9, 10, 11, 12] rfl (fun _ _ h_ => R.callv rfl rfl rfl (compareI3_c _ _ _) (TL.nil h_)) ?_
 refine vP 5 [6, 7, 8, 9, 10, 11, 12] rfl underlying71 rfl sizeOf3 ?_
 refine vA 6 [7, 8, 9, 10, 11, 12] rfl (fun _ _ h_ => R.ldH isAgg3 rfl rfl (h2) rfl (TL.nil h_)) ?_
 refine vP 7 [8, 9, 10, 11, 12] rfl underlying71 rfl sizeOf3 ?_
 refine vA 8 [9, 10, 11, 12] rfl (fun _ _ h_ => R.ldH isAgg3 rfl rfl (h3) rfl (TL.nil h_)) ?_
 refine vA 9 [10, 11, 12] rfl (fun _ _ h_ => R.callv rfl rfl rfl (compareI3_c _ _ _) (TL.nil h_)) ?_
 refine Plan.s1 10 [11, 12] kA kA rfl ?_
 refine R.bsN [_, _] rfl underlying25 sizeOf3 zeroValue3 rfl rfl rfl rfl rfl rfl ?_
 intro b15
 refine TL.shut .hd ?_
 intro H15 s15 q15
 refine TL.nil (Plan.e1 (s15) ?_)
 refine vA 11 [12] rfl (fun _ _ h_ => R.callv rfl rfl rfl (or_c _ _ _ (RdS.lit2 q15)) (TL.nil h_)) ?_
 refine vA 12 [] rfl (fun _ _ h_ => aA (TL.nil h_)) ?_
 refine Plan.done (Post.thnN ?_)
 refine T.ret ?_
 exact fin1 rfl rfl ⟨rfl, congrArg (Value.int .i64) (cmpP_or a b)⟩
end Go.SX.CH
namespace Go.SX.CH
open Go Go.Proofs Go.Proofs.Tryz
theorem ccheck_c (H : Heap) (v : Value) (xs : List Lk) (hr : RdS pairE H v xs) : Fv Tryz.prog (fnv 62) [v] H (.int .i64 (if chainB xs then 0 else 260)) := by
 refine Fc.of_body (N := 36) func62 rfl kA rfl rfl ?_
 intro w0
 obtain ⟨A, c, rfl, hc1, hc2, hr⟩ := hr.shape
 refine sR (aA ?_)
 refine nN (T.scope ?_)
 refine sR (mA ?_)
 refine R.len underlying56 rfl rfl ?_
 refine R.leq rfl rfl rfl ?_
 refine aA ?_
 refine nN (T.seq (T.label (Post.thnN ?_)))
 refine T.seq (sR (mA ?_))
 refine R.len underlying56 rfl rfl ?_
 refine mA ?_
 refine nN (T.block (T.loop (ι := Nat) (fun k H' L' ds' => k ≤ xs.length ∧ L' = [] ∧ ds' = [] ∧ (∀ x ∈ xs.take k, linkB x = true) ∧ UpP (xs.take k)) (fun k => [(0, .slice A xs.length c), (3, .bool (decide ((xs.length : Int) ≤ 2097152))), (9, .slice A xs.length c), (10, .int .i64 xs.length), (11, .int .i64 k)]) (fun k => xs.length - k) (0) ?_ ?_ ?_))
 exact ⟨Nat.zero_le _, rfl, rfl, fun x h => by simp at h, List.Pairwise.nil⟩
 exact ⟨rfl, rfl, rfl, rfl, rfl, trivial⟩
 intro k σ0 H_0 L_0 ds_0 s_0 hI_0
 obtain ⟨hk, rfl, rfl, hm, hu⟩ := hI_0
 refine sR (R.lss rfl rfl rfl ?_)
 refine nN (T.seq (T.condD rfl (fun c12 => ?_) (fun c12 => ?_)))
 have hlt : k < xs.length := by omega
 obtain ⟨y, hy⟩ := getk hlt
 refine T.skip (Post.thnN (T.seq ?_))
 refine T.block (sR (mA ?_))
 obtain ⟨b14, o14, i14, e14⟩ := (hr.mono s_0).elem (hy)
 refine R.ixp underlying56 sizeOf71 rfl rfl rfl oA i14 ?_
 refine R.ldP isAgg71 sizeOf71 rfl rfl (e14) ?_
 refine R.alloc zeroValue71 rfl ?_
 intro b5
 refine aA ?_
 refine R.stA (old := [.int .i64 0, .int .i64 0]) sizeOf71 rfl rfl rfl rfl rfl (by intro v hv; simp at hv; rcases hv with rfl | rfl <;> rfl) .hd ?_
 refine nN (T.seq (T.shut .hd ?_))
 intro H5 s5 q5
 have h5 : H5 b5 = some (.cells #[.int .i64 y.1, .int .i64 y.2] 71) := shut1 q5
 refine T.draw k_2f kA ?_
 refine vA 0 [1, 2, 3, 4, 5, 6, 7, 8, 9, 10, 11, 12, 13, 14, 15, 16] rfl (fun _ _ h_ => R.ldAH isAgg71 sizeOf71 rfl rfl rfl h5 (TL.nil h_)) ?_
 refine vA 1 [2, 3, 4, 5, 6, 7, 8, 9, 10, 11, 12, 13, 14, 15, 16] rfl (fun _ _ h_ => R.callv rfl rfl rfl (link_c _ _) (TL.nil h_)) ?_
 refine vA 2 [3, 4, 5, 6, 7, 8, 9, 10, 11, 12, 13, 14, 15, 16] rfl (fun _ _ h_ => R.not rfl rfl (TL.nil h_)) ?_
 refine vM 3 [4, 5, 6, 7, 8, 9, 10, 11, 12, 13, 14, 15, 16] rfl rfl cA ?_
 refine Plan.gsplit 19 rfl (fun a0 => ?_) (fun a0 => ?_)
 refine vO 4 [5, 6, 7, 8, 9, 10, 11, 12, 13, 14, 15, 16] rfl rfl rfl rfl ?_
 refine vO 5 [6, 7, 8, 9, 10, 11, 12, 13, 14, 15, 16] rfl rfl rfl rfl ?_
 refine vO 6 [7, 8, 9, 10, 11, 12, 13, 14, 15, 16] rfl rfl rfl rfl ?_
 refine vA 7 [8, 9, 10, 11, 12, 13, 14, 15, 16] rfl (fun _ _ h_ => TL.offU rfl rfl (TL.nil h_)) ?_
 refine vA 8 [9, 10, 11, 12, 13, 14, 15, 16] rfl (fun _ _ h_ => TL.offU rfl rfl (TL.nil h_)) ?_
 refine vA 9 [10, 11, 12, 13, 14, 15, 16] rfl (fun _ _ h_ => TL.offU rfl rfl (TL.nil h_)) ?_
 refine vA 10 [11, 12, 13, 14, 15, 16] rfl (fun _ _ h_ => TL.offU rfl rfl (TL.nil h_)) ?_
 refine vA 11 [12, 13, 14, 15, 16] rfl (fun _ _ h_ => TL.offU rfl rfl (TL.nil h_)) ?_
 refine vA 12 [13, 14, 15, 16] rfl (fun _ _ h_ => TL.offU rfl rfl (TL.nil h_)) ?_
 refine vA 13 [14, 15, 16] rfl (fun _ _ h_ => TL.offU rfl rfl (TL.nil h_)) ?_
 refine vA 14 [15, 16] rfl (fun _ _ h_ => TL.offU rfl rfl (TL.nil h_)) ?_
 refine vO 15 [16] rfl rfl rfl rfl ?_
 refine vA 16 [] rfl (fun _ _ h_ => R.pkTE rfl rfl cA (TL.nil h_)) ?_
 refine Plan.done (Post.thnN ?_)
 refine T.condY rfl ?_
 refine sR (aA ?_)
 refine nN (T.exit (Post.blkE rfl (Post.thnE (Post.thnE (Post.blkX ?_)))))
 refine id (Post.thnN (T.seq ?_))
 refine sR (mA ?_)
 refine R.not rfl rfl ?_
 refine nN (T.condY rfl ?_)
 refine sR (aA ?_)
 refine nN (T.ret (Post.thnR (Post.ngR ?_)))
 exact fin1 rfl rfl ⟨rfl, congrArg (Value.int .i64) (by rw [lk_not hy (by simpa using a0)]; rfl)⟩
 refine vM 4 [5, 6, 7, 8, 9, 10, 11, 12, 13, 14, 15, 16] rfl rfl cA ?_
 refine vA 5 [6, 7, 8, 9, 10, 11, 12, 13, 14, 15, 16] rfl (fun _ _ h_ => R.gtr rfl rfl rfl (TL.nil h_)) ?_
 refine vM 6 [7, 8, 9, 10, 11, 12, 13, 14, 15, 16] rfl rfl cA ?_
 refine Plan.gsplitD 22 rfl (fun g22 => ?_) (fun g22 => ?_)
 obtain ⟨y', hy'⟩ := getk (xs := xs) (k := ((k : Int) - 1).toNat) oA
 have hy'' : xs[k - 1]? = some y' := by rw [← hy']; congr 1; omega
 refine vM 7 [8, 9, 10, 11, 12, 13, 14, 15, 16] rfl rfl cA ?_
 refine vM 8 [9, 10, 11, 12, 13, 14, 15, 16] rfl rfl cA ?_
 refine vA 9 [10, 11, 12, 13, 14, 15, 16] rfl (fun _ _ h_ => R.subI rfl rfl rfl oA (TL.nil h_)) ?_
 obtain ⟨b26, o26, i26, e26⟩ := ((hr.mono s_0).mono s5).elem (hy')
 refine vA 10 [11, 12, 13, 14, 15, 16] rfl (fun _ _ h_ => R.ixp underlying56 sizeOf71 rfl rfl rfl oA i26 (TL.nil h_)) ?_
 refine vA 11 [12, 13, 14, 15, 16] rfl (fun _ _ h_ => R.ldP isAgg71 sizeOf71 rfl rfl (e26) (TL.nil h_)) ?_
 refine vA 12 [13, 14, 15, 16] rfl (fun _ _ h_ => R.ldAH isAgg71 sizeOf71 rfl rfl rfl h5 (TL.nil h_)) ?_
 refine vA 13 [14, 15, 16] rfl (fun _ _ h_ => R.callv rfl rfl rfl (cmpP_c _ _ _) (TL.nil h_)) ?_
 refine vA 14 [15, 16] rfl (fun _ _ h_ => R.geq rfl rfl rfl (TL.nil h_)) ?_
 refine vA 15 [16] rfl (fun _ _ h_ => R.pkTE rfl rfl cA (TL.nil h_)) ?_
 refine vA 16 [] rfl (fun _ _ h_ => R.pkFE rfl rfl cA (TL.nil h_)) ?_
 refine Plan.done (Post.thnN ?_)
 refine T.condD rfl (fun c32 => ?_) (fun c32 => ?_)
 refine sR (aA ?_)
 refine nN (T.exit (Post.blkE rfl (Post.thnE (Post.thnE (Post.blkX ?_)))))
 refine id (Post.thnN (T.seq ?_))
 refine sR (mA ?_)
 refine R.not rfl rfl ?_
 refine nN (T.condY rfl ?_)
 refine sR (aA ?_)
 refine nN (T.ret (Post.thnR (Post.ngR ?_)))
 exact fin1 rfl rfl ⟨rfl, congrArg (Value.int .i64) (by rw [lk_not_up oA hy hy'' (fun h => by have := cmpP_lt.2 h; omega)]; rfl)⟩
 refine T.skip (Post.blkN ?_)
 refine id (Post.thnN (T.region ?_))
 refine R.addI rfl rfl rfl oA ?_
 refine mA ?_
 refine nN ?_
 obtain ⟨hm', hu'⟩ := lk_snoc hy hm hu (by simpa using a0) (.inr ⟨y', hy'', cmpP_lt.1 oA⟩)
 exact ⟨k + 1, s_0.trans s5, ⟨by omega, rfl, rfl, hm', hu'⟩, by omega, ⟨rfl, rfl, rfl, rfl, rfl, trivial⟩⟩
 refine vO 7 [8, 9, 10, 11, 12, 13, 14, 15, 16] rfl rfl rfl rfl ?_
 refine vO 8 [9, 10, 11, 12, 13, 14, 15, 16] rfl rfl rfl rfl ?_
 refine vO 9 [10, 11, 12, 13, 14, 15, 16] rfl rfl rfl rfl ?_
 refine vO 10 [11, 12, 13, 14, 15, 16] rfl rfl rfl rfl ?_
 refine vO 11 [12, 13, 14, 15, 16] rfl rfl rfl rfl ?_
 refine vO 12 [13, 14, 15, 16] rfl rfl rfl rfl ?_
 refine vO 13 [14, 15, 16] rfl rfl rfl rfl ?_
 refine vO 14 [15, 16] rfl rfl rfl rfl ?_
 refine vA 15 [16] rfl (fun _ _ h_ => R.pkFE rfl rfl cA (TL.nil h_)) ?_
 refine vA 16 [] rfl (fun _ _ h_ => R.pkFE rfl rfl cA (TL.nil h_)) ?_
 refine Plan.done (Post.thnN ?_)
 refine T.condN rfl ?_
 refine T.skip (Post.blkN ?_)
 refine id (Post.thnN (T.region ?_))
 refine R.addI rfl rfl rfl oA ?_
 refine mA ?_
 refine nN ?_
 obtain ⟨hm', hu'⟩ := lk_snoc hy hm hu (by simpa using a0) (.inl oA)
 exact ⟨k + 1, s_0.trans s5, ⟨by omega, rfl, rfl, hm', hu'⟩, by omega, ⟨rfl, rfl, rfl, rfl, rfl, trivial⟩⟩
 refine T.exit (Post.thnE (Post.thnE (Post.blkX ?_)))
 refine id (Post.thnN (T.seq ?_))
 refine sR (mA ?_)
 refine R.notD rfl rfl ?_
 refine nN (T.condD rfl (fun c35 => ?_) (fun c35 => ?_))
 refine sR (aA ?_)
 refine nN (T.ret (Post.thnR (Post.ngR ?_)))
 exact fin1 rfl rfl ⟨rfl, congrArg (Value.int .i64) (by rw [lk_long c35]; rfl)⟩
 refine T.skip (Post.thnN (sR ?_))
 refine aA ?_
 refine nN (T.ret (Post.ngR ?_))
 have hkx : k = xs.length := by omega
 rw [hkx, List.take_length] at hm hu
 exact fin1 rfl rfl ⟨rfl, congrArg (Value.int .i64) (by rw [← lk_end hm hu, decide_eq_true (Decidable.of_not_not c35)]; rfl)⟩
end Go.SX.CH
namespace Go.SX
open Go
def unmet (u met : List Int) : Nat := u.countP (fun w => !met.any (fun y => decide (y = w)))
theorem unmet_le {u : List Int} {met more : List Int} : unmet u (met ++ more) ≤ unmet u met := by
  unfold unmet
  refine List.countP_mono_left (fun w _ h => ?_)
  simp only [List.any_append, Bool.not_eq_true', Bool.or_eq_false_iff] at h ⊢
  exact h.1
theorem unmet_lt {u : List Int} {met more : List Int} {x : Int} (hx : x ∈ more) (hu : x ∈ u) (hm : met.any (fun y => decide (y = x)) = false) : unmet u (met ++ more) < unmet u met := by
  induction u with
  | nil => cases hu
  | cons a u ih =>
    have hle : unmet u (met ++ more) ≤ unmet u met := unmet_le
    unfold unmet at hle ih ⊢
    rw [List.countP_cons, List.countP_cons]
    by_cases e : x = a
    · subst e
      have h1 : (met ++ more).any (fun y => decide (y = x)) = true := List.any_eq_true.2 ⟨x, List.mem_append_right _ hx, by simp⟩
      simp only [h1, hm, Bool.not_true, Bool.not_false, if_true, Bool.false_eq_true, if_false]
      omega
    · have hu' : x ∈ u := by
        rcases List.mem_cons.1 hu with h | h
        · exact absurd h e
        · exact h
      have := ih hu'
      cases h1 : met.any (fun y => decide (y = a)) with
      | true =>
        have h2 : (met ++ more).any (fun y => decide (y = a)) = true := by rw [List.any_append, h1]; rfl
        simp only [h2, Bool.not_true, Bool.false_eq_true, if_false]
        omega
      | false =>
        simp only [Bool.not_false, if_true]
        split <;> omega
end Go.SX
namespace Go.SX
open Go
theorem nodup_len : ∀ {l u : List Int}, l.Nodup → (∀ x ∈ l, x ∈ u) → l.length ≤ u.length
  | [], u, _, _ => Nat.zero_le _
  | a :: l, u, h, hs => by
    have h1 := List.nodup_cons.1 h
    have ha := hs a (List.mem_cons_self ..)
    have := nodup_len (l := l) (u := u.erase a) h1.2 (fun x hx => by
      have hxu := hs x (List.mem_cons_of_mem _ hx)
      exact (List.mem_erase_of_ne (fun e => h1.1 (by rw [← e]; exact hx))).2 hxu)
    rw [List.length_erase_of_mem ha] at this
    have hp : 0 < u.length := List.length_pos_of_mem ha
    simp only [List.length_cons]; omega
def tbL (b : Bool) (xs : List Lk) (v : Int) : List Int := if b then fromL xs v else toL xs v
def endsL (b : Bool) (xs : List Lk) : List Int := if b then xs.map (·.1) else xs.map (·.2)
theorem ends_len (b : Bool) (xs : List Lk) : (endsL b xs).length = xs.length := by unfold endsL; split <;> simp
theorem tb_mem {b : Bool} {xs : List Lk} {v x : Int} (h : x ∈ tbL b xs v) : x ∈ endsL b xs := by
  unfold tbL endsL at *
  cases b with
  | true =>
    simp only [if_true] at h ⊢
    unfold fromL at h
    split at h
    · obtain ⟨y, hy, rfl⟩ := List.mem_map.1 h
      exact List.mem_map.2 ⟨y, (List.mem_filter.1 hy).1, rfl⟩
    · cases h
  | false =>
    simp only [Bool.false_eq_true, if_false] at h ⊢
    unfold toL at h
    split at h
    · obtain ⟨y, hy, rfl⟩ := List.mem_map.1 h
      exact List.mem_map.2 ⟨y, (List.mem_filter.1 hy).1, rfl⟩
    · cases h
end Go.SX
namespace Go.SX
end Go.SX
namespace Go.SX
open Go
def lastI (p : List Int) : Int := p.getLast?.getD 0
theorem lastI_snoc (p : List Int) (w : Int) : lastI (p ++ [w]) = w := by simp [lastI]
theorem to_mem {xs : List Lk} {v x : Int} (h : x ∈ toL xs v) : x ∈ endsL false xs := tb_mem (b := false) (v := v) (by simpa [tbL] using h)
def MetIs (m : MapL) (met : List Int) : Prop := ∀ k, (mget m k).getD (.bool false) = .bool (decide (k ∈ met))
theorem MetIs.nil : MetIs [] [] := fun k => rfl
theorem MetIs.put {m : MapL} {met : List Int} (h : MetIs m met) (w : Int) : MetIs (mput m w (.bool true)) (met ++ [w]) := fun k => by
  rw [mget_mput]
  by_cases e : k = w
  · rw [if_pos e]; simp [e]
  · rw [if_neg e, h k]; simp [e]
theorem permS {a b : Chunk} {L : Own} : (a :: b :: L).flatten.Perm (b :: a :: L).flatten := by
  simp only [List.flatten_cons]
  rw [← List.append_assoc, ← List.append_assoc]
  exact List.perm_append_comm.append_right _
end Go.SX
namespace Go.SX
open Go
end Go.SX
namespace Go.SX
open Go
end Go.SX
namespace Go.SX
open Go
def Wk (to : Int → List Int) : List Int → Prop
  | [] => False
  | [_] => True
  | a :: b :: r => b ∈ to a ∧ Wk to (b :: r)
theorem lastI_cons {a b : Int} {r : List Int} : lastI (a :: b :: r) = lastI (b :: r) := by simp [lastI, List.getLast?_cons_cons]
theorem Wk.snoc {to : Int → List Int} : ∀ {p : List Int} {w : Int}, p ≠ [] → (Wk to (p ++ [w]) ↔ Wk to p ∧ w ∈ to (lastI p))
  | [], _, h => absurd rfl h
  | [a], w, _ => by
    show (w ∈ to a ∧ True) ↔ (True ∧ w ∈ to (lastI [a]))
    have : lastI [a] = a := rfl
    rw [this]
    exact ⟨fun h => ⟨trivial, h.1⟩, fun h => ⟨h.2, trivial⟩⟩
  | a :: b :: r, w, _ => by
    have ih := Wk.snoc (to := to) (p := b :: r) (w := w) (by simp)
    rw [lastI_cons]
    show (b ∈ to a ∧ Wk to ((b :: r) ++ [w])) ↔ ((b ∈ to a ∧ Wk to (b :: r)) ∧ w ∈ to (lastI (b :: r)))
    rw [ih]
    exact ⟨fun h => ⟨⟨h.1, h.2.1⟩, h.2.2⟩, fun h => ⟨h.1.1, h.1.2, h.2⟩⟩
theorem Wk.ne {to : Int → List Int} {p : List Int} (h : Wk to p) : p ≠ [] := by
  cases p with
  | nil => exact h.elim
  | cons _ _ => simp
def Wy (to : Int → List Int) (a z : Int) (p : List Int) : Prop := Wk to p ∧ p.head? = some a ∧ lastI p = z
theorem Wy.one (to : Int → List Int) (a : Int) : Wy to a a [a] := ⟨trivial, rfl, rfl⟩
theorem Wy.snoc {to : Int → List Int} {a v w : Int} {p : List Int} (h : Wy to a v p) (hw : w ∈ to v) : Wy to a w (p ++ [w]) := by
  obtain ⟨h1, h2, h3⟩ := h
  have hn := h1.ne
  refine ⟨(Wk.snoc hn).2 ⟨h1, by rw [h3]; exact hw⟩, ?_, lastI_snoc _ _⟩
  cases p with
  | nil => exact absurd rfl hn
  | cons x r => exact h2
theorem Wy.un {to : Int → List Int} {a z : Int} {p : List Int} (h : Wy to a z p) : (p = [a] ∧ z = a) ∨ ∃ v r, p = a :: v :: r ∧ v ∈ to a ∧ Wy to v z (v :: r) := by
  obtain ⟨h1, h2, h3⟩ := h
  cases p with
  | nil => exact h1.elim
  | cons x r =>
    injection h2 with h2
    subst h2
    cases r with
    | nil => exact .inl ⟨rfl, h3.symm⟩
    | cons v r => exact .inr ⟨v, r, rfl, h1.1, h1.2, rfl, by rw [← h3, lastI_cons]⟩
theorem Wy.unsnoc {to : Int → List Int} {a z : Int} {p : List Int} (h : Wy to a z p) : (p = [a] ∧ z = a) ∨ ∃ q v, p = q ++ [z] ∧ Wy to a v q ∧ z ∈ to v := by
  obtain ⟨h1, h2, h3⟩ := h
  have hn := h1.ne
  have e : p = p.dropLast ++ [p.getLast hn] := (List.dropLast_concat_getLast hn).symm
  have hz : p.getLast hn = z := by
    rw [← h3]; unfold lastI; rw [List.getLast?_eq_some_getLast hn]; rfl
  rw [hz] at e
  by_cases hq : p.dropLast = []
  · rw [hq] at e
    simp at e
    rw [e] at h2
    simp at h2
    exact .inl ⟨by rw [e, h2], h2⟩
  · rw [e] at h1
    have h4 := (Wk.snoc hq).1 h1
    refine .inr ⟨p.dropLast, lastI p.dropLast, e, ⟨h4.1, ?_, rfl⟩, h4.2⟩
    cases hd : p.dropLast with
    | nil => exact absurd hd hq
    | cons x r => rw [hd] at e; rw [e] at h2; exact h2
end Go.SX
namespace Go.SX
open Go
end Go.SX
namespace Go.SX
open Go
end Go.SX
namespace Go.SX
open Go
end Go.SX
namespace Go.SX
open Go
end Go.SX
namespace Go.SX
open Go
def sw (b : Bool) (y : Lk) : Lk := if b then (y.2, y.1) else y
def tosB (b : Bool) (xs : List Lk) (i : Nat) (k : Int) : List Int := ((xs.take i).filter (fun y => decide ((sw b y).1 = k))).map (fun y => (sw b y).2)
theorem tosB_zero (b : Bool) (xs : List Lk) (k : Int) : tosB b xs 0 k = [] := by simp [tosB]
theorem tosB_snoc {b : Bool} {xs : List Lk} {i : Nat} {y : Lk} (h : xs[i]? = some y) : (fun k => if k = (sw b y).1 then tosB b xs i (sw b y).1 ++ [(sw b y).2] else tosB b xs i k) = tosB b xs (i + 1) := by
  funext k
  unfold tosB
  by_cases e : k = (sw b y).1
  · rw [if_pos e, filtP_yes h (by simp [e]), e]
  · rw [if_neg e, filtP_no h (by simpa using fun x => e x.symm)]
theorem tosB_all {b : Bool} {xs : List Lk} (h : chainB xs = true) (k : Int) : tosB b xs xs.length k = tbL b xs k := by
  unfold tosB tbL toL fromL sw
  rw [List.take_length]
  cases b <;> simp [h]
theorem tb_bad {b : Bool} {xs : List Lk} (h : chainB xs = false) (k : Int) : tbL b xs k = [] := by
  unfold tbL toL fromL; cases b <;> simp [h]
theorem tosB_len (b : Bool) (xs : List Lk) (i : Nat) (k : Int) : (tosB b xs i k).length ≤ xs.length := by
  unfold tosB
  rw [List.length_map]
  have := List.length_filter_le (fun y : Lk => decide ((sw b y).1 = k)) (xs.take i)
  simp at this; omega
theorem perm_take1 {a c : Chunk} {rows R : Own} (h : rows.flatten.Perm (c :: R).flatten) : (a :: rows).flatten.Perm (c :: a :: R).flatten := by
  simp only [List.flatten_cons] at h ⊢
  exact (h.append_left a).trans (List.perm_append_comm_assoc a c _)
theorem perm_put1 {a c : Chunk} {rows R : Own} (h : (c :: R).flatten.Perm rows.flatten) : (a :: c :: R).flatten.Perm (a :: rows).flatten := by
  simp only [List.flatten_cons] at h ⊢
  exact h.append_left a
theorem perm_one {L : Own} : L.flatten.Perm ([L.flatten] : Own).flatten := by simp
def StepF (P : Program) (fv : Value) (f : Int → List Int) (H : Heap) : Prop := ∀ H', HLe H H' → ∀ x, Fp P fv [.int .i64 x] H' (fun w H'' => RdS (intE .i64) H'' w (f x))
theorem StepF.mono {P : Program} {fv : Value} {f : Int → List Int} {H H' : Heap} (h : StepF P fv f H) (hl : HLe H H') : StepF P fv f H' := fun H2 h2 => h H2 (hl.trans h2)
abbrev MS := List Int × List Int
def meetS (s : MS) (x : Int) : MS := if x ∈ s.1 then s else (s.1 ++ [x], s.2 ++ [x])
def meetL (ws : List Int) (s : MS) : MS := ws.foldl meetS s
def meetA (f : Int → List Int) (vs : List Int) (s : MS) : MS := vs.foldl (fun s v => meetL (f v) s) s
theorem meetL_snoc {ws : List Int} {s : MS} {i : Nat} {w : Int} (h : ws[i]? = some w) : meetL (ws.take (i + 1)) s = meetS (meetL (ws.take i) s) w := by
  unfold meetL; rw [List.take_add_one, h, List.foldl_append]; rfl
theorem meetA_snoc {f : Int → List Int} {vs : List Int} {s : MS} {i : Nat} {v : Int} (h : vs[i]? = some v) : meetA f (vs.take (i + 1)) s = meetL (f v) (meetA f (vs.take i) s) := by
  unfold meetA; rw [List.take_add_one, h, List.foldl_append]; rfl
theorem meetS_bound (u : List Int) {s : MS} {x : Int} (hx : x ∈ u) : (meetS s x).2.length + unmet u (meetS s x).1 ≤ s.2.length + unmet u s.1 := by
  unfold meetS
  split
  · exact Nat.le_refl _
  · rename_i h
    have := unmet_lt (u := u) (met := s.1) (more := [x]) (x := x) (List.mem_singleton.2 rfl) hx (by
      rw [List.any_eq_false]; intro y hy; simp; intro e; exact h (e ▸ hy))
    simp only [List.length_append, List.length_cons, List.length_nil]
    omega
theorem meetL_bound (u : List Int) : ∀ {ws : List Int} {s : MS}, (∀ w ∈ ws, w ∈ u) → (meetL ws s).2.length + unmet u (meetL ws s).1 ≤ s.2.length + unmet u s.1
  | [], s, _ => Nat.le_refl _
  | w :: ws, s, h => by
    show (meetL ws (meetS s w)).2.length + _ ≤ _
    exact Nat.le_trans (meetL_bound u (fun x hx => h x (List.mem_cons_of_mem _ hx))) (meetS_bound u (h w (List.mem_cons_self ..)))
theorem meetA_bound (u : List Int) {f : Int → List Int} (hf : ∀ v, ∀ w ∈ f v, w ∈ u) : ∀ {vs : List Int} {s : MS}, (meetA f vs s).2.length + unmet u (meetA f vs s).1 ≤ s.2.length + unmet u s.1
  | [], s => Nat.le_refl _
  | v :: vs, s => by
    show (meetA f vs (meetL (f v) s)).2.length + _ ≤ _
    exact Nat.le_trans (meetA_bound u hf) (meetL_bound u (hf v))
def wGo (f : Int → List Int) : Nat → MS → List (List Int)
  | 0, _ => []
  | n + 1, (met, wave) => if wave = [] then [] else sortI wave :: wGo f n (meetA f (sortI wave) (met, []))
def wavesW (f : Int → List Int) (k : Nat) (first : List Int) : List (List Int) := wGo f (k + first.length + 1) (meetL first ([], []))
def VInv (f : Int → List Int) (u first : List Int) (n : Nat) (pre : List (List Int)) (s : MS) : Prop :=
  pre ++ wGo f n s = wavesW f u.length first ∧ s.2.length + unmet u s.1 < n ∧ n ≤ u.length + first.length + 1
theorem VInv.start (f : Int → List Int) (u first : List Int) : VInv f u first (u.length + first.length + 1) [] (meetL first ([], [])) := by
  refine ⟨rfl, ?_, Nat.le_refl _⟩
  have h1 : unmet u (meetL first ([], [])).1 ≤ u.length := List.countP_le_length
  have h2 : ∀ (ws : List Int) (s : MS), (meetL ws s).2.length ≤ s.2.length + ws.length := by
    intro ws
    induction ws with
    | nil => intro s; exact Nat.le_refl _
    | cons w ws ih =>
      intro s
      have := ih (meetS s w)
      have h3 : (meetS s w).2.length ≤ s.2.length + 1 := by unfold meetS; split <;> simp
      show (meetL ws (meetS s w)).2.length ≤ _
      simp only [List.length_cons]; omega
  have := h2 first ([], [])
  simp only [List.length_nil] at this
  omega
theorem VInv.stop {f : Int → List Int} {u first : List Int} {n : Nat} {pre : List (List Int)} {s : MS} (h : VInv f u first n pre s) (h0 : s.2 = []) : wavesW f u.length first = pre := by
  obtain ⟨h1, h2, _⟩ := h
  obtain ⟨met, wave⟩ := s
  simp only at h0; subst h0
  cases n with
  | zero => omega
  | succ n => rw [← h1]; simp [wGo]
theorem VInv.hand {f : Int → List Int} {u first : List Int} {n : Nat} {pre : List (List Int)} {s : MS} (h : VInv f u first n pre s) (h0 : s.2 ≠ []) : (pre ++ [sortI s.2]) <+: wavesW f u.length first := by
  obtain ⟨h1, h2, _⟩ := h
  obtain ⟨met, wave⟩ := s
  cases n with
  | zero => omega
  | succ n =>
    rw [← h1, wGo, if_neg h0]
    exact ⟨wGo f n (meetA f (sortI wave) (met, [])), by simp⟩
theorem VInv.go {f : Int → List Int} {u first : List Int} {n : Nat} {pre : List (List Int)} {s : MS} (hf : ∀ v, ∀ w ∈ f v, w ∈ u) (h : VInv f u first n pre s) (h0 : s.2 ≠ []) :
    VInv f u first (n - 1) (pre ++ [sortI s.2]) (meetA f (sortI s.2) (s.1, [])) ∧ 0 < n := by
  obtain ⟨h1, h2, h3⟩ := h
  obtain ⟨met, wave⟩ := s
  cases n with
  | zero => omega
  | succ n =>
    refine ⟨⟨?_, ?_, by omega⟩, by omega⟩
    · rw [← h1, wGo, if_neg h0]; simp
    · have hb := meetA_bound u hf (vs := sortI wave) (s := (met, []))
      have hp : 0 < wave.length := List.length_pos_iff.2 h0
      simp only [List.length_nil] at hb h2
      show _ < n
      simp only
      omega
theorem VInv.bnd {f : Int → List Int} {u first : List Int} {n : Nat} {pre : List (List Int)} {s : MS} (h : VInv f u first n pre s) : s.2.length ≤ u.length + first.length := by have := h.2.1; have := h.2.2; omega
theorem meet_len {f : Int → List Int} {u : List Int} (hf : ∀ v, ∀ w ∈ f v, w ∈ u) {here ws : List Int} {met : List Int} (hw : ∀ w ∈ ws, w ∈ u) : (meetL ws (meetA f here (met, []))).2.length ≤ u.length := by
  have h1 := meetL_bound u hw (s := meetA f here (met, []))
  have h2 := meetA_bound u hf (vs := here) (s := (met, []))
  have h3 : unmet u met ≤ u.length := List.countP_le_length
  simp only [List.length_nil] at h2
  omega
theorem meetL_len : ∀ (ws : List Int) (s : MS), (meetL ws s).2.length ≤ s.2.length + ws.length
  | [], s => Nat.le_refl _
  | w :: ws, s => by
    have := meetL_len ws (meetS s w)
    have h3 : (meetS s w).2.length ≤ s.2.length + 1 := by unfold meetS; split <;> simp
    show (meetL ws (meetS s w)).2.length ≤ _
    simp only [List.length_cons]; omega
def YV : Heap → List Value → List Int → Prop := fun H vs p => ∃ w, vs = [w] ∧ RdS (intE .i64) H w p
end Go.SX
namespace Go.SX
open Go
theorem perm3 {a b c : Chunk} : ([a, b, c] : Own).flatten.Perm ([c, a, b] : Own).flatten := by
  simp only [List.flatten_cons, List.flatten_nil, List.append_nil]
  rw [← List.append_assoc]
  exact List.perm_append_comm
def leadsR (xs : List Lk) (a z : Int) : Bool := (wavesW (toL xs) xs.length (toL xs a)).any (fun w => w.any (fun y => decide (z = y)))
theorem leads_no {xs : List Lk} {a z : Int} (h : ∀ w ∈ wavesW (toL xs) xs.length (toL xs a), w.any (fun y => decide (z = y)) = false) : leadsR xs a z = false := by
  unfold leadsR; rw [List.any_eq_false]; intro w hw; simp [h w hw]
theorem leads_yes {xs : List Lk} {a z : Int} {w : List Int} (h : w ∈ wavesW (toL xs) xs.length (toL xs a)) (hw : w.any (fun y => decide (z = y)) = true) : leadsR xs a z = true := List.any_eq_true.2 ⟨w, h, hw⟩
theorem toL_len (xs : List Lk) (v : Int) : (toL xs v).length ≤ xs.length := by
  unfold toL; split
  · rw [List.length_map]; exact List.length_filter_le _ _
  · simp
end Go.SX
namespace Go.SX.CH
open Go Go.Proofs Go.Proofs.Tryz
theorem steps1_c (H : Heap) (b5 b8 : Nat) (es : Array MapEntry) (ck : Nat) (m : MapL) (f : Int → List Int) (x : Int) (h5 : H b5 = some (.cells #[.map (some b8)] 191)) (hm : H b8 = some (.map es ck)) (hi : MapIs .i64 es m) (hrow : ∀ k, RdS (intE .i64) H ((mget m k).getD (.slice none 0 0)) (f k)) : Fp Tryz.prog (.func (.func 143) #[] ([.pointer (some ⟨b5, 0, none⟩)] : List Value).toArray) [.int .i64 x] H (fun v' H' => RdS (intE .i64) H' v' (f x)) := by
 refine Fc.of_body (N := 7) func143 rfl kA rfl rfl ?_
 intro w0
 refine sR (aA ?_)
 refine nN (sR (R.ldH isAgg191 rfl rfl (h5) rfl ?_))
 refine mA ?_
 refine R.lkuH underlying191 underlying3 zeroValue25 rfl rfl rfl hm hi ?_
 refine aA ?_
 refine nN (T.ret ?_)
 exact fin1 rfl rfl ⟨rfl, hrow x⟩
theorem steps_c (H : Heap) (v : Value) (xs : List Lk) (b : Bool) (hr : RdS pairE H v xs) (hl : xs.length ≤ 1000) : Fp Tryz.prog (fnv 63) [v, .bool b] H (fun v' H' => v'.cells = #[v'] ∧ StepF Tryz.prog v' (tbL b xs) H') := by
 refine Fc.of_body (N := 37) func63 rfl kA rfl rfl ?_
 intro w0
 obtain ⟨A, c, rfl, hc1, hc2, hr⟩ := hr.shape
 refine sR (aA ?_)
 refine nN (sR (R.mkm rfl ?_))
 intro b8
 refine R.alloc zeroValue191 rfl ?_
 intro b5
 refine R.st sizeOf191 rfl rfl cA rfl (by first | exact .hd | exact .tl .hd | exact .tl (.tl .hd) | exact .tl (.tl (.tl .hd)) | exact .tl (.tl (.tl (.tl .hd))) | exact .tl (.tl (.tl (.tl (.tl .hd)))) | exact .tl (.tl (.tl (.tl (.tl (.tl .hd))))) | exact .tl (.tl (.tl (.tl (.tl (.tl (.tl .hd)))))) | exact .tl (.tl (.tl (.tl (.tl (.tl (.tl (.tl .hd))))))) | exact .tl (.tl (.tl (.tl (.tl (.tl (.tl (.tl (.tl .hd))))))))) ?_
 refine nN (T.seq (T.seq (T.shut .hd ?_)))
 intro H5 s5 q5
 have h5 : H5 b5 = some (.cells #[.map (some b8)] 191) := shut1 q5
 refine T.region (mA ?_)
 refine R.callv rfl rfl rfl (ccheck_c _ _ _ (hr.mono s5)) ?_
 refine R.eql rfl rfl rfl ?_
 refine nN (T.condD rfl (fun a3 => ?_) (fun a3 => ?_))
 have hcb : chainB xs = true := by
   cases h : chainB xs with
   | true => rfl
   | false => rw [h] at a3; exact absurd a3 (by decide)
 refine sR (mA ?_)
 refine R.len underlying56 rfl rfl ?_
 refine mA ?_
 refine nN (T.block (T.loop (ι := Nat × MapL × Own × Array MapEntry × Nat) (fun ⟨k, m, rows, es, ck⟩ H' L' ds' => k ≤ xs.length ∧ ds' = [] ∧ L' = [(b8, .map es ck)] :: rows ∧ MapIs .i64 es m ∧ F2 (intE .i64) 3 H' (tosB b xs k) m rows ∧ (m.map Prod.fst).Nodup ∧ (∀ j, j ∉ m.map Prod.fst → tosB b xs k j = [])) (fun ⟨k, m, rows, es, ck⟩ => [(1, .bool b), (5, .pointer (some ⟨b5, 0, none⟩)), (12, .slice A xs.length c), (13, .int .i64 xs.length), (14, .int .i64 k)]) (fun ⟨k, m, rows, es, ck⟩ => xs.length - k) ((0, [], [], #[], 0)) ?_ ?_ ?_))
 exact ⟨Nat.zero_le _, rfl, rfl, mapIs_nil _, trivial, List.nodup_nil, fun j _ => tosB_zero b xs j⟩
 exact ⟨rfl, rfl, rfl, rfl, rfl, trivial⟩
 intro ⟨k, m, rows, es, ck⟩ σ0 H_0 L_0 ds_0 s_0 hI_0
 obtain ⟨hk, rfl, rfl, hm, hf, hnd, hno⟩ := hI_0
 refine sR (R.lss rfl rfl rfl ?_)
 refine nN (T.seq (T.condD rfl (fun c15 => ?_) (fun c15 => ?_)))
 have hlt : k < xs.length := by omega
 obtain ⟨y, hy⟩ := getk hlt
 refine T.skip (Post.thnN (T.seq ?_))
 refine T.block (sR ?_)
 obtain ⟨b16, o16, i16, e16⟩ := ((hr.mono s5).mono s_0).elem (hy)
 refine R.ixp underlying56 sizeOf71 rfl rfl rfl oA i16 ?_
 refine R.ldP isAgg71 sizeOf71 rfl rfl (e16) ?_
 refine R.alloc zeroValue71 rfl ?_
 intro b7
 refine R.stA (old := [.int .i64 0, .int .i64 0]) sizeOf71 rfl rfl rfl rfl rfl (by intro v hv; simp at hv; rcases hv with rfl | rfl <;> rfl) .hd ?_
 refine nN (T.cut (ι := Unit) (fun _ H' L' ds' => L' = [(b7, .cells #[.int .i64 (sw b y).1, .int .i64 (sw b y).2] 71)] :: [(b8, .map es ck)] :: rows ∧ ds' = []) (fun _ => [(1, .bool b), (5, .pointer (some ⟨b5, 0, none⟩)), (7, .pointer (some ⟨b7, 0, none⟩)), (12, .slice A xs.length c), (13, .int .i64 xs.length), (14, .int .i64 k)]) ?_ ?_)
 refine sR (mA ?_)
 refine nN (T.cond rfl (fun c18 => ?_) (fun c18 => ?_))
 refine T.region (fA underlying71 rfl sizeOf3 ?_)
 refine R.ld isAgg3 rfl rfl (by repeat (first | exact .hd | refine .tl ?_)) rfl ?_
 refine fA underlying71 rfl sizeOf3 ?_
 refine R.ld isAgg3 rfl rfl (by repeat (first | exact .hd | refine .tl ?_)) rfl ?_
 refine R.bld (cs := [.int .i64 y.2, .int .i64 y.1]) rfl (fun _ => by kernel_rfl) ?_
 refine R.stA (old := [.int .i64 y.1, .int .i64 y.2]) sizeOf71 rfl rfl rfl rfl rfl (by intro v hv; simp at hv; rcases hv with rfl | rfl <;> rfl) .hd ?_
 refine nN ?_
 subst c18
 exact ⟨(), HLe.refl _, ⟨rfl, rfl⟩, rfl, rfl, rfl, rfl, rfl, rfl, trivial⟩
 refine T.skip (Post.thnN ?_)
 subst c18
 exact ⟨(), HLe.refl _, ⟨rfl, rfl⟩, rfl, rfl, rfl, rfl, rfl, rfl, trivial⟩
 intro _ σ_c18 H_c18 L_c18 ds_c18 a0 a5
 obtain ⟨rfl, rfl⟩ := a5
 refine T.shut .hd ?_
 intro H7 s7 q7
 have h7 : H7 b7 = some (.cells #[.int .i64 (sw b y).1, .int .i64 (sw b y).2] 71) := shut1 q7
 obtain ⟨cr, RR, hpr, hoc, hput⟩ := F2.take (sw b y).1 ((hf.mono a0).mono s7) hnd (hno _)
 refine T.permL (L' := cr :: [(b8, .map es ck)] :: RR) (perm_take1 hpr) ?_
 have hbl := tosB_len b xs k (sw b y).1
 refine T.draw k_2f kA ?_
 refine vA 0 [1, 2, 3, 4, 5, 6, 7, 8, 9, 10, 11] rfl (fun _ _ h_ => R.ldH isAgg191 rfl rfl (s7 _ _ (a0 _ _ (s_0 _ _ h5))) rfl (TL.nil h_)) ?_
 refine vP 1 [2, 3, 4, 5, 6, 7, 8, 9, 10, 11] rfl underlying71 rfl sizeOf3 ?_
 refine vA 2 [3, 4, 5, 6, 7, 8, 9, 10, 11] rfl (fun _ _ h_ => R.ldH isAgg3 rfl rfl (h7) rfl (TL.nil h_)) ?_
 refine vA 3 [4, 5, 6, 7, 8, 9, 10, 11] rfl (fun _ _ h_ => R.ldH isAgg191 rfl rfl (s7 _ _ (a0 _ _ (s_0 _ _ h5))) rfl (TL.nil h_)) ?_
 refine vP 4 [5, 6, 7, 8, 9, 10, 11] rfl underlying71 rfl sizeOf3 ?_
 refine vA 5 [6, 7, 8, 9, 10, 11] rfl (fun _ _ h_ => R.ldH isAgg3 rfl rfl (h7) rfl (TL.nil h_)) ?_
 refine vP 7 [6, 8, 9, 10, 11] rfl underlying71 rfl sizeOf3 ?_
 refine vA 8 [6, 9, 10, 11] rfl (fun _ _ h_ => R.ldH isAgg3 rfl rfl (h7) rfl (TL.nil h_)) ?_
 refine Plan.s2 6 9 [9, 10, 11] [6, 10, 11] kA kA kA rfl rfl ?_ ?_
 refine R.lku underlying191 underlying3 zeroValue25 rfl rfl rfl (by first | exact .hd | exact .tl .hd | exact .tl (.tl .hd) | exact .tl (.tl (.tl .hd)) | exact .tl (.tl (.tl (.tl .hd))) | exact .tl (.tl (.tl (.tl (.tl .hd)))) | exact .tl (.tl (.tl (.tl (.tl (.tl .hd))))) | exact .tl (.tl (.tl (.tl (.tl (.tl (.tl .hd)))))) | exact .tl (.tl (.tl (.tl (.tl (.tl (.tl (.tl .hd))))))) | exact .tl (.tl (.tl (.tl (.tl (.tl (.tl (.tl (.tl .hd))))))))) hm ?_
 refine eA ?_
 refine Plan.s1 9 [10, 11] kA kA rfl ?_
 refine R.bs rfl (k_4 underlying25 sizeOf3 zeroValue3 rfl rfl) ?_
 intro b33
 rotate_left
 refine R.bs rfl (k_4 underlying25 sizeOf3 zeroValue3 rfl rfl) ?_
 intro b33
 refine eA ?_
 refine Plan.s1 6 [10, 11] kA kA rfl ?_
 refine R.lku underlying191 underlying3 zeroValue25 rfl rfl rfl (by first | exact .hd | exact .tl .hd | exact .tl (.tl .hd) | exact .tl (.tl (.tl .hd)) | exact .tl (.tl (.tl (.tl .hd))) | exact .tl (.tl (.tl (.tl (.tl .hd)))) | exact .tl (.tl (.tl (.tl (.tl (.tl .hd))))) | exact .tl (.tl (.tl (.tl (.tl (.tl (.tl .hd)))))) | exact .tl (.tl (.tl (.tl (.tl (.tl (.tl (.tl .hd))))))) | exact .tl (.tl (.tl (.tl (.tl (.tl (.tl (.tl (.tl .hd))))))))) hm ?_
 rotate_left
 refine T.exit (Post.thnE (Post.thnE (Post.blkX ?_)))
 refine id (Post.thnN (T.seq ?_))
 have hkx : k = xs.length := by omega
 refine T.permL (L' := [List.flatten ([(b8, .map es ck)] :: rows)]) perm_one ?_
 refine T.shut .hd ?_
 intro HF sF qF
 have hmF : HF b8 = some (.map es ck) := qF (b8, .map es ck) (by simp)
 have hAt : ∀ j, RdS (intE .i64) HF ((mget m j).getD (.slice none 0 0)) (tbL b xs j) := fun j => by
   rw [← tosB_all hcb j, ← hkx]
   exact hf.read j sF (fun q hq => qF q (by simp only [List.flatten_cons]; exact List.mem_append_right _ hq)) (hno j)
 have h5F := sF _ _ (s_0 _ _ h5)
 rotate_left
 have hcb : chainB xs = false := by
   cases h : chainB xs with
   | false => rfl
   | true => rw [h] at a3; exact absurd rfl a3
 refine T.skip (Post.thnN (T.seq ?_))
 refine T.shut .hd ?_
 intro HF sF qF
 have hmF : HF b8 = some (.map #[] 0) := shut1 qF
 have hAt : ∀ j, RdS (intE .i64) HF ((mget [] j).getD (.slice none 0 0)) (tbL b xs j) := fun j => by
   rw [tb_bad hcb]; exact RdS.nil
 have h5F := sF _ _ h5
 have hm := mapIs_nil .i64
 rotate_left
 all_goals first
  | (
   refine eA ?_
   refine Plan.s1 10 [11] kA kA rfl ?_
   refine R.app (ys := [(sw b y).2]) k_aa rfl rfl rfl hoc (.tl .hd) (Src.lit (vs := [.int .i64 (sw b y).2]) (by first | exact .hd | exact .tl .hd | exact .tl (.tl .hd) | exact .tl (.tl (.tl .hd)) | exact .tl (.tl (.tl (.tl .hd))) | exact .tl (.tl (.tl (.tl (.tl .hd)))) | exact .tl (.tl (.tl (.tl (.tl (.tl .hd))))) | exact .tl (.tl (.tl (.tl (.tl (.tl (.tl .hd)))))) | exact .tl (.tl (.tl (.tl (.tl (.tl (.tl (.tl .hd))))))) | exact .tl (.tl (.tl (.tl (.tl (.tl (.tl (.tl (.tl .hd)))))))))) ⟨[.int .i64 (sw b y).2], [], rfl, rfl, rfl⟩ (by first | omega | (simp; omega)) (by first | omega | (simp; omega)) ?_
   intro a4 c34 w34
   refine TL.del (.tl .hd) ?_
   refine eA ?_
   refine Plan.s1 11 [] kA kA rfl ?_
   refine R.mup underlying191 underlying3 rfl rfl rfl rfl (.tl .hd) hm ?_
   intro a1 a2 i35
   refine eB ?_
   refine Plan.done (Post.blkN ?_)
   refine id (Post.thnN ?_)
   obtain ⟨rowsX, hfX, hpX⟩ := hput H7 a4 c34 _ (HLe.refl _) w34
   refine T.permL (L' := [(b8, .map a1 a2)] :: rowsX) (perm_put1 hpX) ?_
   refine T.region (R.addI rfl rfl rfl oA ?_)
   refine mA ?_
   refine nN (⟨(k + 1, mput m (sw b y).1 a4, rowsX, a1, a2), s_0.trans (a0.trans s7), ⟨by show k + 1 ≤ _; omega, rfl, rfl, i35, by rw [← tosB_snoc hy]; exact hfX, mput_nodup _ _ _ hnd, fun j hj => ?_⟩, by show xs.length - (k + 1) < xs.length - k; omega, ⟨rfl, rfl, rfl, rfl, rfl, trivial⟩⟩)
   have h9 : j ≠ (sw b y).1 ∧ j ∉ m.map Prod.fst := by
     refine ⟨fun e => hj ((mput_keys _ _ _ _).2 (.inl e)), fun e => hj ((mput_keys _ _ _ _).2 (.inr e))⟩
   rw [← congrFun (tosB_snoc hy) j, if_neg h9.1]
   exact hno j h9.2)
  | (
   refine T.region (R.mkf (cs := [_]) rfl rfl ?_)
   refine aA ?_
   refine nN (T.ret ?_)
   exact fin1 rfl rfl ⟨rfl, rfl, fun H2 h2 x => steps1_c H2 b5 b8 _ _ _ _ x (h2 _ _ h5F) (h2 _ _ hmF) hm (fun j => (hAt j).mono h2)⟩)
theorem meet_c (H : Heap) (b4 b5 a0 : Nat) (es : Array MapEntry) (ck : Nat) (m : MapL) (s : MS) (vw : Value) (cw : Chunk) (x : Int) (h4 : H b4 = some (.cells #[.map (some a0)] 146)) (hm : MapIs .i64 es m) (hM : MetIs m s.1) (ho : OwnS (intE .i64) 3 H vw s.2 cw) (hl : s.2.length ≤ 1000000) : Fc Tryz.prog (.func (.func 248) #[] ([.pointer (some ⟨b4, 0, none⟩), .pointer (some ⟨b5, 0, none⟩)] : List Value).toArray) [.int .i64 x] H [[(b5, .cells #[vw] 25)], cw, [(a0, .map es ck)]] (fun _ H' L' => ∃ vw' cw' es' ck' m', L' = [[(b5, .cells #[vw'] 25)], cw', [(a0, .map es' ck')]] ∧ MapIs .i64 es' m' ∧ MetIs m' (meetS s x).1 ∧ OwnS (intE .i64) 3 H' vw' (meetS s x).2 cw') := by
 refine Fc.of_body (N := 14) func248 rfl kA rfl rfl ?_
 intro w0
 refine sR (R.ldH isAgg146 rfl rfl (h4) rfl ?_)
 refine mA ?_
 refine R.lku underlying146 underlying3 zeroValue4 rfl rfl rfl (.tl (.tl .hd)) hm ?_
 refine TL.set 6 (.bool (decide (x ∈ s.1))) (hM x) ?_
 refine R.notD rfl rfl ?_
 refine nN (T.condD rfl (fun c7 => ?_) (fun c7 => ?_))
 refine sR (R.ldH isAgg146 rfl rfl (h4) rfl ?_)
 refine mA ?_
 refine R.mup underlying146 underlying3 rfl rfl rfl rfl (.tl (.tl .hd)) hm ?_
 intro es9 ck9 i9
 refine nN (T.region (R.ld isAgg25 rfl rfl (by repeat (first | exact .hd | refine .tl ?_)) rfl ?_))
 refine mA ?_
 refine R.bs rfl (k_4 underlying25 sizeOf3 zeroValue3 rfl rfl) ?_
 intro b12
 refine R.app (ys := [x]) k_aa rfl rfl rfl ho (.tl (.tl (.tl .hd))) (Src.lit (vs := [.int .i64 x]) .hd) ⟨[.int .i64 x], [], rfl, rfl, rfl⟩ (by simp; omega) (by simp; omega) ?_
 intro v13 c13 w13
 refine TL.del (.tl .hd) ?_
 refine R.st sizeOf25 rfl rfl rfl (by obtain ⟨_, _, e, _⟩ := w13.shape; subst e; rfl) (by first | exact .hd | exact .tl .hd | exact .tl (.tl .hd) | exact .tl (.tl (.tl .hd)) | exact .tl (.tl (.tl (.tl .hd))) | exact .tl (.tl (.tl (.tl (.tl .hd)))) | exact .tl (.tl (.tl (.tl (.tl (.tl .hd))))) | exact .tl (.tl (.tl (.tl (.tl (.tl (.tl .hd)))))) | exact .tl (.tl (.tl (.tl (.tl (.tl (.tl (.tl .hd))))))) | exact .tl (.tl (.tl (.tl (.tl (.tl (.tl (.tl (.tl .hd))))))))) ?_
 refine TL.permL (L' := [[(b5, .cells #[v13] 25)], c13, [(a0, .map es9 ck9)]]) perm3 ?_
 refine TL.nil ?_
 exact fin0N _ rfl (List.Sublist.refl _) ⟨_, _, _, _, _, rfl, i9, by unfold meetS; rw [if_neg c7]; exact hM.put x, by unfold meetS; rw [if_neg c7]; exact w13⟩
 refine T.skip ?_
 exact fin0N _ rfl (List.Sublist.refl _) ⟨_, _, _, _, _, rfl, hm, by unfold meetS; rw [if_pos (Decidable.of_not_not c7)]; exact hM, by unfold meetS; rw [if_pos (Decidable.of_not_not c7)]; exact ho⟩
theorem sort_c (H : Heap) (v : Value) (xs : List Int) (ch : Chunk) (ho : OwnS (intE .i64) 3 H v xs ch) (hne : xs ≠ []) (hl : xs.length ≤ 1099511627776) : Fc Tryz.prog (fnv 163) [v] H [ch] (fun _ H' L' => H' = H ∧ ∃ c', L' = [c'] ∧ OwnS (intE .i64) 3 H v (sortI xs) c') :=
  sort_fc (e := 3) func163 rfl (by kernel_rfl) (fun blk off cap zs w h1 h2 h3 => Any.slices_Sort_int Tryz.lays189 blk off cap zs w h1 h2 h3) ho hne hl
end Go.SX.CH
namespace Go.SX.CH
open Go Go.Proofs Go.Proofs.Tryz
theorem wavesIt_c (H : Heap) (bf bn : Nat) (u fv : Value) (first uni : List Int) (f : Int → List Int) (hbf : H bf = some (.cells #[u] 25)) (hbn : H bn = some (.cells #[fv] 124)) (hr : RdS (intE .i64) H u first) (hfv : StepF Tryz.prog fv f H) (huni : ∀ v, ∀ w ∈ f v, w ∈ uni) (hl : uni.length ≤ 2000) (hl2 : first.length ≤ 2000) : Iter Tryz.prog (.func (.func 247) #[] ([.pointer (some ⟨bf, 0, none⟩), .pointer (some ⟨bn, 0, none⟩)] : List Value).toArray) YV H (wavesW f uni.length first) := by
 obtain ⟨A, c, rfl, hc1, hc2, hr⟩ := hr.shape
 intro l J Jx H1 Lc hle hJ hJx hY h0
 refine Fc.of_body (N := 55) func247 rfl kA rfl rfl ?_
 intro w0
 refine sR (R.mkm rfl ?_)
 intro a0
 refine R.alloc zeroValue146 rfl ?_
 intro b4
 refine R.st sizeOf146 rfl rfl cA rfl (by first | exact .hd | exact .tl .hd | exact .tl (.tl .hd) | exact .tl (.tl (.tl .hd)) | exact .tl (.tl (.tl (.tl .hd))) | exact .tl (.tl (.tl (.tl (.tl .hd)))) | exact .tl (.tl (.tl (.tl (.tl (.tl .hd))))) | exact .tl (.tl (.tl (.tl (.tl (.tl (.tl .hd)))))) | exact .tl (.tl (.tl (.tl (.tl (.tl (.tl (.tl .hd))))))) | exact .tl (.tl (.tl (.tl (.tl (.tl (.tl (.tl (.tl .hd))))))))) ?_
 refine nN (sR (R.alloc zeroValue25 rfl ?_))
 intro b5
 refine nN (T.seq (T.shut (.tl .hd) ?_))
 intro H4 s4 q4
 have h4 : H4 b4 = some (.cells #[.map (some a0)] 146) := shut1 q4
 refine T.permL (L' := [(b5, .cells #[.slice none 0 0] 25)] :: [] :: [(a0, .map #[] 0)] :: Lc) (List.Perm.refl _) ?_
 refine T.region (R.mkf (cs := [_, _]) rfl rfl ?_)
 refine aA ?_
 refine nN (T.seq (sR (R.ldH isAgg25 rfl rfl (s4 _ _ (hle _ _ hbf)) rfl ?_)))
 refine R.len underlying25 rfl rfl ?_
 refine mA ?_
 refine nN (T.block (T.loop (ι := Nat × Value × Chunk × Array MapEntry × Nat × MapL) (fun ⟨k, vw, cw, es, ck, m⟩ H' L' ds' => k ≤ first.length ∧ ds' = [] ∧ L' = [(b5, .cells #[vw] 25)] :: cw :: [(a0, .map es ck)] :: Lc ∧ MapIs .i64 es m ∧ MetIs m (meetL (first.take k) ([], [])).1 ∧ OwnS (intE .i64) 3 H' vw (meetL (first.take k) ([], [])).2 cw ∧ J [] H' Lc) (fun ⟨k, vw, cw, es, ck, m⟩ => [(0, yieldv l), (2, .pointer (some ⟨bn, 0, none⟩)), (5, .pointer (some ⟨b5, 0, none⟩)), (6, (.func (.func 248) #[] ([.pointer (some ⟨b4, 0, none⟩), .pointer (some ⟨b5, 0, none⟩)] : List Value).toArray)), (16, .slice A first.length c), (17, .int .i64 first.length), (18, .int .i64 k)]) (fun ⟨k, vw, cw, es, ck, m⟩ => first.length - k) ((0, .slice none 0 0, [], #[], 0, [])) ?_ ?_ ?_))
 exact ⟨Nat.zero_le _, rfl, rfl, mapIs_nil _, MetIs.nil, OwnS.nil, hJ _ _ _ _ s4 h0⟩
 exact ⟨rfl, rfl, rfl, rfl, rfl, rfl, rfl, trivial⟩
 intro ⟨k, vw, cw, es, ck, m⟩ σ0 H_0 L_0 ds_0 s_0 hI_0
 obtain ⟨hk, rfl, rfl, hm, hM, ho, a2⟩ := hI_0
 refine sR (R.lss rfl rfl rfl ?_)
 refine nN (T.seq (T.condD rfl (fun c19 => ?_) (fun c19 => ?_)))
 have hlt : k < first.length := by omega
 obtain ⟨x, hx⟩ := getk hlt
 refine T.skip (Post.thnN (T.seq ?_))
 refine T.block (sR ?_)
 obtain ⟨b20, o20, i20, e20⟩ := (((hr.mono hle).mono s4).mono s_0).elem (hx)
 refine R.ixp underlying25 sizeOf3 rfl rfl rfl oA i20 ?_
 refine R.ldC isAgg3 rfl rfl (e20).int ?_
 refine aA ?_
 refine nN (T.region (mA ?_))
 refine mA ?_
 refine TL.call [true, true, true] rfl rfl rfl (meet_c H_0 b4 b5 a0 es ck m (meetL (first.take k) ([], [])) vw cw x (s_0 _ _ h4) hm hM ho (by have := meetL_len (first.take k) ([], []); simp at this; omega)) ?_
 intro v24 H24 L24 s24 q24
 obtain ⟨vw1, cw1, es1, ck1, m1, rfl, hm1, hM1, ho1⟩ := q24
 refine TL.nil (Post.blkN ?_)
 refine id (Post.thnN (T.region ?_))
 refine R.addI rfl rfl rfl oA ?_
 refine mA ?_
 refine nN ?_
 exact ⟨(k + 1, vw1, cw1, es1, ck1, m1), s_0.trans s24, ⟨by show k + 1 ≤ _; omega, rfl, rfl, hm1, by rw [meetL_snoc hx]; exact hM1, by rw [meetL_snoc hx]; exact ho1, hJ _ _ _ _ s24 a2⟩, by show first.length - (k + 1) < first.length - k; omega, ⟨rfl, rfl, rfl, rfl, rfl, rfl, rfl, trivial⟩⟩
 refine T.exit (Post.thnE (Post.thnE (Post.blkX ?_)))
 refine id (Post.thnN (T.block ?_))
 refine T.loop (ι := Nat × List (List Int) × MS × Value × Chunk × Array MapEntry × Nat × MapL × Own) (fun ⟨n, pre, s, vw, cw, es, ck, m, Lj⟩ H' L' ds' => ds' = [] ∧ L' = [(b5, .cells #[vw] 25)] :: cw :: [(a0, .map es ck)] :: Lj ∧ VInv f uni first n pre s ∧ MapIs .i64 es m ∧ MetIs m s.1 ∧ OwnS (intE .i64) 3 H' vw s.2 cw ∧ J pre H' Lj) (fun ⟨n, pre, s, vw, cw, es, ck, m, Lj⟩ => [(0, yieldv l), (2, .pointer (some ⟨bn, 0, none⟩)), (5, .pointer (some ⟨b5, 0, none⟩)), (6, (.func (.func 248) #[] ([.pointer (some ⟨b4, 0, none⟩), .pointer (some ⟨b5, 0, none⟩)] : List Value).toArray))]) (fun ⟨n, pre, s, vw, cw, es, ck, m, Lj⟩ => n) ((uni.length + first.length + 1, [], meetL first ([], []), vw, cw, es, ck, m, Lc)) ?_ ?_ ?_
 have hkx : k = first.length := by omega
 rw [hkx, List.take_length] at hM ho
 exact ⟨rfl, rfl, VInv.start f uni first, hm, hM, ho, a2⟩
 exact ⟨rfl, rfl, rfl, rfl, trivial⟩
 intro ⟨n, pre, s, vw, cw, es, ck, m, Lj⟩ σ1 H_1 L_1 ds_1 s_1 hI_1
 have hh0 : HLe H1 H_0 := s4.trans s_0
 obtain ⟨rfl, rfl, hV, hm, hM, ho, a2⟩ := hI_1
 obtain ⟨Aw, kw, hvw, hw1, hw2⟩ := ho.shape
 subst hvw
 refine T.seq (sR (R.ld isAgg25 rfl rfl (by repeat (first | exact .hd | refine .tl ?_)) rfl ?_))
 refine R.len underlying25 rfl rfl ?_
 refine R.gtr rfl rfl rfl ?_
 refine nN (T.condD rfl (fun c28 => ?_) (fun c28 => ?_))
 have hne : s.2 ≠ [] := fun e => by rw [e] at c28; exact absurd c28 (by decide)
 refine T.skip (Post.thnN (T.block ?_))
 refine sR (R.ld isAgg25 rfl rfl (by repeat (first | exact .hd | refine .tl ?_)) rfl ?_)
 refine TL.call [false, true] rfl rfl rfl (sort_c _ _ s.2 cw ho hne (by have := hV.bnd; omega)) ?_
 intro v30 H30 L30 s30 q30
 obtain ⟨rfl, c30, rfl, w30⟩ := q30
 refine TL.shut .hd ?_
 intro HS sS qS
 have g30 := w30.read sS qS
 have hsl : (sortI s.2).length = s.2.length := (k_26 s.2).length_eq
 refine nN (sR (R.ld isAgg25 rfl rfl (by repeat (first | exact .hd | refine .tl ?_)) rfl ?_))
 refine aA ?_
 refine nN (T.seq (sR (mA ?_)))
 refine mA ?_
 refine TL.callT 2 rfl rfl rfl (hY pre (sortI s.2) _ HS Lj (hh0.trans (s_1.trans sS)) (hV.hand hne) (hJ _ _ _ _ sS a2) ⟨_, rfl, g30⟩) ?_
 intro v34 H34 a1 a3 q34
 rcases q34 with ⟨rfl, hJ2⟩ | ⟨rfl, hJ2⟩
 refine R.not rfl rfl ?_
 refine nN (T.condN rfl ?_)
 refine T.skip (Post.thnN (sR ?_))
 refine R.st sizeOf25 rfl rfl cA rfl (by first | exact .hd | exact .tl .hd | exact .tl (.tl .hd) | exact .tl (.tl (.tl .hd)) | exact .tl (.tl (.tl (.tl .hd))) | exact .tl (.tl (.tl (.tl (.tl .hd)))) | exact .tl (.tl (.tl (.tl (.tl (.tl .hd))))) | exact .tl (.tl (.tl (.tl (.tl (.tl (.tl .hd)))))) | exact .tl (.tl (.tl (.tl (.tl (.tl (.tl (.tl .hd))))))) | exact .tl (.tl (.tl (.tl (.tl (.tl (.tl (.tl (.tl .hd))))))))) ?_
 refine nN (T.seq (T.permL (L' := [(b5, .cells #[.slice none 0 0] 25)] :: [] :: [(a0, .map es ck)] :: a1) (List.Perm.refl _) ?_))
 refine T.region (mA ?_)
 refine R.len underlying25 rfl rfl ?_
 refine mA ?_
 refine nN (T.block (T.loop (ι := Nat × Value × Chunk × Array MapEntry × Nat × MapL) (fun ⟨j, vw, cw, es, ck, m⟩ H' L' ds' => j ≤ (sortI s.2).length ∧ ds' = [] ∧ L' = [(b5, .cells #[vw] 25)] :: cw :: [(a0, .map es ck)] :: a1 ∧ MapIs .i64 es m ∧ MetIs m (meetA f ((sortI s.2).take j) (s.1, [])).1 ∧ OwnS (intE .i64) 3 H' vw (meetA f ((sortI s.2).take j) (s.1, [])).2 cw ∧ J (pre ++ [(sortI s.2)]) H' a1) (fun ⟨j, vw, cw, es, ck, m⟩ => [(0, yieldv l), (2, .pointer (some ⟨bn, 0, none⟩)), (5, .pointer (some ⟨b5, 0, none⟩)), (6, (.func (.func 248) #[] ([.pointer (some ⟨b4, 0, none⟩), .pointer (some ⟨b5, 0, none⟩)] : List Value).toArray)), (36, .slice Aw s.2.length kw), (37, .int .i64 s.2.length), (38, .int .i64 j)]) (fun ⟨j, vw, cw, es, ck, m⟩ => (sortI s.2).length - j) ((0, .slice none 0 0, [], es, ck, m)) ?_ ?_ ?_))
 exact ⟨Nat.zero_le _, rfl, rfl, hm, hM, OwnS.nil, hJ2⟩
 exact ⟨rfl, rfl, rfl, rfl, rfl, rfl, rfl, trivial⟩
 intro ⟨j, vw, cw, es, ck, m⟩ σ2 H_2 L_2 ds_2 s_2 hI_2
 obtain ⟨hj, rfl, rfl, hm, hM, ho, hJ3⟩ := hI_2
 have hh2 : HLe H1 H_2 := hh0.trans (s_1.trans (sS.trans (a3.trans s_2)))
 refine sR (R.lss rfl rfl rfl ?_)
 refine nN (T.seq (T.condD rfl (fun c39 => ?_) (fun c39 => ?_)))
 have hlt2 : j < (sortI s.2).length := by omega
 obtain ⟨y, hy⟩ := getk hlt2
 refine T.skip (Post.thnN (T.seq ?_))
 refine T.block (sR ?_)
 obtain ⟨b40, o40, i40, e40⟩ := ((g30.mono a3).mono s_2).elem (hy)
 refine R.ixp underlying25 sizeOf3 rfl rfl rfl oA i40 ?_
 refine R.ldC isAgg3 rfl rfl (e40).int ?_
 refine aA ?_
 refine nN (sR (R.ldH isAgg124 rfl rfl (hh2 _ _ (hle _ _ hbn)) rfl ?_))
 refine mA ?_
 refine R.callp rfl rfl rfl (hfv _ (hle.trans hh2) y) ?_
 intro v44 H44 a4 q44
 obtain ⟨A44, c44, rfl, m44, n44, g44⟩ := q44.shape
 refine R.len underlying25 rfl rfl ?_
 refine mA ?_
 refine nN (T.block (T.loop (ι := Nat × Value × Chunk × Array MapEntry × Nat × MapL) (fun ⟨i, vw, cw, es, ck, m⟩ H' L' ds' => i ≤ (f y).length ∧ ds' = [] ∧ L' = [(b5, .cells #[vw] 25)] :: cw :: [(a0, .map es ck)] :: a1 ∧ MapIs .i64 es m ∧ MetIs m (meetL ((f y).take i) (meetA f ((sortI s.2).take j) (s.1, []))).1 ∧ OwnS (intE .i64) 3 H' vw (meetL ((f y).take i) (meetA f ((sortI s.2).take j) (s.1, []))).2 cw ∧ J (pre ++ [(sortI s.2)]) H' a1) (fun ⟨i, vw, cw, es, ck, m⟩ => [(0, yieldv l), (2, .pointer (some ⟨bn, 0, none⟩)), (5, .pointer (some ⟨b5, 0, none⟩)), (6, (.func (.func 248) #[] ([.pointer (some ⟨b4, 0, none⟩), .pointer (some ⟨b5, 0, none⟩)] : List Value).toArray)), (36, .slice Aw s.2.length kw), (37, .int .i64 s.2.length), (38, .int .i64 j), (44, .slice A44 (f y).length c44), (45, .int .i64 (f y).length), (46, .int .i64 i)]) (fun ⟨i, vw, cw, es, ck, m⟩ => (f y).length - i) ((0, vw, cw, es, ck, m)) ?_ ?_ ?_))
 exact ⟨Nat.zero_le _, rfl, rfl, hm, hM, ho.mono a4, hJ _ _ _ _ a4 hJ3⟩
 exact ⟨rfl, rfl, rfl, rfl, rfl, rfl, rfl, rfl, rfl, rfl, trivial⟩
 intro ⟨i, vw, cw, es, ck, m⟩ σ3 H_3 L_3 ds_3 s_3 hI_3
 obtain ⟨hi, rfl, rfl, hm, hM, ho, hJ4⟩ := hI_3
 have hh3 : HLe H4 H_3 := s_0.trans (s_1.trans (sS.trans (a3.trans (s_2.trans (a4.trans s_3)))))
 refine sR (R.lss rfl rfl rfl ?_)
 refine nN (T.seq (T.condD rfl (fun c47 => ?_) (fun c47 => ?_)))
 have hlt3 : i < (f y).length := by omega
 obtain ⟨z, hz⟩ := getk hlt3
 refine T.skip (Post.thnN (T.seq ?_))
 refine T.block (sR ?_)
 obtain ⟨b48, o48, i48, e48⟩ := (g44.mono s_3).elem (hz)
 refine R.ixp underlying25 sizeOf3 rfl rfl rfl oA i48 ?_
 refine R.ldC isAgg3 rfl rfl (e48).int ?_
 refine aA ?_
 refine nN (T.region (mA ?_))
 refine mA ?_
 refine TL.call [true, true, true] rfl rfl rfl (meet_c H_3 b4 b5 a0 es ck m (meetL ((f y).take i) (meetA f ((sortI s.2).take j) (s.1, []))) vw cw z (hh3 _ _ h4) hm hM ho (by have := meet_len huni (here := (sortI s.2).take j) (ws := (f y).take i) (met := s.1) (fun w hw => huni y w (List.mem_of_mem_take hw)); omega)) ?_
 intro v52 H52 L52 s52 q52
 obtain ⟨vw1, cw1, es1, ck1, m1, rfl, hm1, hM1, ho1⟩ := q52
 refine TL.nil (Post.blkN ?_)
 refine id (Post.thnN (T.region ?_))
 refine R.addI rfl rfl rfl oA ?_
 refine mA ?_
 refine nN ?_
 exact ⟨(i + 1, vw1, cw1, es1, ck1, m1), s_3.trans s52, ⟨by show i + 1 ≤ _; omega, rfl, rfl, hm1, by rw [meetL_snoc hz]; exact hM1, by rw [meetL_snoc hz]; exact ho1, hJ _ _ _ _ s52 hJ4⟩, by show (f y).length - (i + 1) < (f y).length - i; omega, ⟨rfl, rfl, rfl, rfl, rfl, rfl, rfl, rfl, rfl, rfl, trivial⟩⟩
 refine T.exit (Post.thnE (Post.thnE (Post.blkX ?_)))
 refine id (Post.blkN ?_)
 refine id (Post.thnN (T.region ?_))
 refine R.addI rfl rfl rfl oA ?_
 refine mA ?_
 refine nN ?_
 have hix : i = (f y).length := by omega
 rw [hix, List.take_length] at hM ho
 exact ⟨(j + 1, vw, cw, es, ck, m), s_2.trans (a4.trans s_3), ⟨by show j + 1 ≤ _; omega, rfl, rfl, hm, by rw [meetA_snoc hy]; exact hM, by rw [meetA_snoc hy]; exact ho, hJ4⟩, by show (sortI s.2).length - (j + 1) < (sortI s.2).length - j; omega, ⟨rfl, rfl, rfl, rfl, rfl, rfl, rfl, trivial⟩⟩
 refine T.exit (Post.thnE (Post.thnE (Post.blkX ?_)))
 refine id (Post.blkN ?_)
 refine id (Post.thnN ?_)
 have hjx : j = (sortI s.2).length := by omega
 rw [hjx, List.take_length] at hM ho
 exact ⟨(n - 1, pre ++ [(sortI s.2)], meetA f (sortI s.2) (s.1, []), vw, cw, es, ck, m, a1), s_1.trans (sS.trans (a3.trans s_2)), ⟨rfl, rfl, (hV.go huni hne).1, hm, hM, ho, hJ3⟩, by show n - 1 < n; have := (hV.go huni hne).2; omega, ⟨rfl, rfl, rfl, rfl, trivial⟩⟩
 refine R.not rfl rfl ?_
 refine nN (T.condY rfl ?_)
 refine T.ret (Post.thnR (Post.blkR (Post.thnR (Post.blkR ?_))))
 exact fin0L a1 rfl ((List.sublist_cons_self _ _).trans (List.sublist_cons_self _ _)) (.inr ⟨_, _, hV.hand hne, hJ2⟩)
 have hs0 : s.2 = [] := List.length_eq_zero_iff.1 oA
 have hst := hV.stop hs0
 refine T.exit (Post.thnE (Post.thnE (Post.blkX ?_)))
 refine id ?_
 exact fin0N Lj rfl ((List.sublist_cons_self _ _).trans ((List.sublist_cons_self _ _).trans (List.sublist_cons_self _ _))) (.inl (by rw [hst]; exact a2))
end Go.SX.CH
namespace Go.SX
open Go
structure MF (s0 s : MS) (P : Int → Prop) : Prop where
  met : ∀ x, x ∈ s.1 ↔ x ∈ s0.1 ∨ x ∈ s.2
  new : ∀ x, x ∈ s.2 ↔ P x ∧ x ∉ s0.1
  nd : s.2.Nodup
theorem MF.one {s0 s : MS} {P : Int → Prop} (h : MF s0 s P) (y : Int) : MF s0 (meetS s y) (fun x => P x ∨ x = y) := by
  unfold meetS
  by_cases hy : y ∈ s.1
  · rw [if_pos hy]
    refine ⟨h.met, fun x => ?_, h.nd⟩
    rw [h.new]
    constructor
    · rintro ⟨h1, h2⟩; exact ⟨.inl h1, h2⟩
    · rintro ⟨h1 | h1, h2⟩
      · exact ⟨h1, h2⟩
      · subst h1
        rcases (h.met x).1 hy with h3 | h3
        · exact absurd h3 h2
        · exact (h.new x).1 h3
  · rw [if_neg hy]
    have hy0 : y ∉ s0.1 := fun e => hy ((h.met y).2 (.inl e))
    have hy2 : y ∉ s.2 := fun e => hy ((h.met y).2 (.inr e))
    refine ⟨fun x => ?_, fun x => ?_, ?_⟩
    · simp only [List.mem_append, List.mem_singleton, h.met x]
      constructor
      · rintro ((h1 | h1) | h1)
        · exact .inl h1
        · exact .inr (.inl h1)
        · exact .inr (.inr h1)
      · rintro (h1 | h1 | h1)
        · exact .inl (.inl h1)
        · exact .inl (.inr h1)
        · exact .inr h1
    · simp only [List.mem_append, List.mem_singleton, h.new x]
      constructor
      · rintro (⟨h1, h2⟩ | h1)
        · exact ⟨.inl h1, h2⟩
        · subst h1; exact ⟨.inr rfl, hy0⟩
      · rintro ⟨h1 | h1, h2⟩
        · exact .inl ⟨h1, h2⟩
        · exact .inr h1
    · refine List.nodup_append.2 ⟨h.nd, by simp, fun x hx z hz => ?_⟩
      simp at hz; subst hz
      exact fun e => hy2 (e ▸ hx)
theorem MF.congr {s0 s : MS} {P Q : Int → Prop} (h : MF s0 s P) (hq : ∀ x, P x ↔ Q x) : MF s0 s Q := ⟨h.met, fun x => by rw [h.new, hq], h.nd⟩
theorem MF.list {s0 : MS} : ∀ {ws : List Int} {s : MS} {P : Int → Prop}, MF s0 s P → MF s0 (meetL ws s) (fun x => P x ∨ x ∈ ws)
  | [], s, P, h => h.congr (fun x => by simp)
  | w :: ws, s, P, h => by
    refine (MF.list (ws := ws) (h.one w)).congr (fun x => ?_)
    simp only [List.mem_cons, or_assoc]
theorem MF.all {s0 : MS} {f : Int → List Int} : ∀ {vs : List Int} {s : MS} {P : Int → Prop}, MF s0 s P → MF s0 (meetA f vs s) (fun x => P x ∨ ∃ v ∈ vs, x ∈ f v)
  | [], s, P, h => h.congr (fun x => by simp)
  | v :: vs, s, P, h => by
    refine (MF.all (vs := vs) (h.list (ws := f v))).congr (fun x => ?_)
    constructor
    · rintro ((h1 | h1) | ⟨u, h1, h2⟩)
      · exact .inl h1
      · exact .inr ⟨v, List.mem_cons_self .., h1⟩
      · exact .inr ⟨u, List.mem_cons_of_mem _ h1, h2⟩
    · rintro (h1 | ⟨u, h1, h2⟩)
      · exact .inl (.inl h1)
      · rcases List.mem_cons.1 h1 with rfl | h1
        · exact .inl (.inr h2)
        · exact .inr ⟨u, h1, h2⟩
theorem MF.start (met : List Int) : MF (met, []) (met, []) (fun _ => False) := ⟨fun x => by simp, fun x => by simp, List.nodup_nil⟩
theorem meetA_mf (f : Int → List Int) (vs met : List Int) : MF (met, []) (meetA f vs (met, [])) (fun x => ∃ v ∈ vs, x ∈ f v) := (MF.start met).all.congr (fun x => by simp)
theorem sortI_mem {xs : List Int} {x : Int} : x ∈ sortI xs ↔ x ∈ xs := (k_26 xs).mem_iff
theorem wGo_reach {to : Int → List Int} (u : List Int) (hu : ∀ v, ∀ w ∈ to v, w ∈ u) (R : Int → Prop) (hR : ∀ v w, R v → w ∈ to v → R w) : ∀ (n : Nat) (outs : List (List Int)) (met wave : List Int), wave.length + unmet u met < n →
    (∀ x, x ∈ met ↔ x ∈ outs.flatten ∨ x ∈ wave) → (∀ x ∈ met, R x) → (∀ v ∈ outs.flatten, ∀ w ∈ to v, w ∈ met) →
    (∀ x ∈ met, x ∈ (outs ++ wGo to n (met, wave)).flatten) ∧ (∀ x ∈ (outs ++ wGo to n (met, wave)).flatten, R x) ∧ (∀ v ∈ (outs ++ wGo to n (met, wave)).flatten, ∀ w ∈ to v, w ∈ (outs ++ wGo to n (met, wave)).flatten)
  | 0, _, _, _, h, _, _, _ => by omega
  | n + 1, outs, met, wave, hn, h1, h2, h3 => by
    rw [wGo]
    by_cases hw : wave = []
    · rw [if_pos hw, List.append_nil]
      subst hw
      have h4 : ∀ x, x ∈ met ↔ x ∈ outs.flatten := fun x => by rw [h1]; simp
      exact ⟨fun x hx => (h4 x).1 hx, fun x hx => h2 x ((h4 x).2 hx), fun v hv w hw => (h4 w).1 (h3 v hv w hw)⟩
    · rw [if_neg hw]
      have hM := meetA_mf to (sortI wave) met
      have hb := meetA_bound u hu (vs := sortI wave) (s := (met, []))
      have hp : 0 < wave.length := List.length_pos_iff.2 hw
      simp only [List.length_nil] at hb
      obtain ⟨k1, k2, k3⟩ := wGo_reach u hu R hR n (outs ++ [sortI wave]) (meetA to (sortI wave) (met, [])).1 (meetA to (sortI wave) (met, [])).2 (by omega)
        (fun x => by rw [hM.met]; simp only [List.flatten_append, List.flatten_cons, List.flatten_nil, List.append_nil, List.mem_append, sortI_mem]; rw [h1])
        (fun x hx => by
          rcases (hM.met x).1 hx with h4 | h4
          · exact h2 x h4
          · obtain ⟨⟨v, hv, hxv⟩, _⟩ := (hM.new x).1 h4
            exact hR v x (h2 v ((h1 v).2 (.inr (sortI_mem.1 hv)))) hxv)
        (fun v hv w hwv => by
          simp only [List.flatten_append, List.flatten_cons, List.flatten_nil, List.append_nil, List.mem_append] at hv
          rcases hv with hv | hv
          · exact (hM.met w).2 (.inl (h3 v hv w hwv))
          · by_cases hm : w ∈ met
            · exact (hM.met w).2 (.inl hm)
            · exact (hM.met w).2 (.inr ((hM.new w).2 ⟨⟨v, hv, hwv⟩, hm⟩)))
      have e : outs ++ [sortI wave] ++ wGo to n (meetA to (sortI wave) (met, [])) = outs ++ sortI wave :: wGo to n (meetA to (sortI wave) (met, [])) := by simp
      rw [e] at k1 k2 k3
      exact ⟨fun x hx => k1 x ((hM.met x).2 (.inl hx)), k2, k3⟩
theorem wavesW_reach {to : Int → List Int} (u : List Int) (hu : ∀ v, ∀ w ∈ to v, w ∈ u) (first : List Int) (z : Int) : z ∈ (wavesW to u.length first).flatten ↔ ∃ v ∈ first, ∃ p, Wy to v z p := by
  have hM := (MF.start []).list (ws := first)
  have h1 : unmet u (meetL first ([], [])).1 ≤ u.length := List.countP_le_length
  have h2 := meetL_len first ([], [])
  simp only [List.length_nil] at h2
  have hin : ∀ x, x ∈ (meetL first ([], [])).2 ↔ x ∈ first := fun x => by rw [hM.new]; simp
  have hmet : ∀ x, x ∈ (meetL first ([], [])).1 ↔ x ∈ first := fun x => by rw [hM.met, hin]; simp
  obtain ⟨k1, k2, k3⟩ := wGo_reach u hu (fun z => ∃ v ∈ first, ∃ p, Wy to v z p) (fun v w ⟨x, hx, p, hp⟩ hw => ⟨x, hx, _, hp.snoc hw⟩) (u.length + first.length + 1) [] (meetL first ([], [])).1 (meetL first ([], [])).2 (by omega)
    (fun x => by rw [hmet, hin]; simp) (fun x hx => ⟨x, (hmet x).1 hx, [x], Wy.one to x⟩) (fun v hv => by simp at hv)
  have e : ([] : List (List Int)) ++ wGo to (u.length + first.length + 1) ((meetL first ([], [])).1, (meetL first ([], [])).2) = wavesW to u.length first := rfl
  rw [e] at k1 k2 k3
  refine ⟨k2 z, fun ⟨v, hv, p, hp⟩ => ?_⟩
  have hv0 := k1 v ((hmet v).2 hv)
  have key : ∀ (n : Nat) (z : Int) (p : List Int), p.length = n → Wy to v z p → z ∈ (wavesW to u.length first).flatten := by
    intro n
    induction n with
    | zero => intro z p hl hp; exact absurd (List.length_eq_zero_iff.1 hl) hp.1.ne
    | succ n ih =>
      intro z p hl hp
      rcases hp.unsnoc with ⟨_, rfl⟩ | ⟨q, y, rfl, hq, hz⟩
      · exact hv0
      · exact k3 y (ih y q (by simpa using hl) hq) z hz
  exact key _ z p rfl hp
theorem leads_iff {xs : List Lk} {a z : Int} : leadsR xs a z = true ↔ ∃ v ∈ toL xs a, ∃ p, Wy (toL xs) v z p := by
  have h := wavesW_reach (to := toL xs) (endsL false xs) (fun v w hw => to_mem hw) (toL xs a) z
  rw [ends_len] at h
  rw [← h]
  unfold leadsR
  rw [List.any_eq_true]
  constructor
  · rintro ⟨w, hw, h1⟩
    obtain ⟨y, hy, e⟩ := List.any_eq_true.1 h1
    exact List.mem_flatten.2 ⟨w, hw, of_decide_eq_true e ▸ hy⟩
  · intro h1
    obtain ⟨w, hw, hz⟩ := List.mem_flatten.1 h1
    exact ⟨w, hw, List.any_eq_true.2 ⟨z, hz, by simp⟩⟩
end Go.SX
namespace Go.SX
end Go.SX
namespace Go.SX.CH
open Go Go.Proofs Go.Proofs.Tryz
theorem waves_it (H : Heap) (u fv : Value) (first uni : List Int) (f : Int → List Int) (hcf : fv.cells = #[fv]) (hr : RdS (intE .i64) H u first) (hfv : StepF Tryz.prog fv f H) (huni : ∀ v, ∀ w ∈ f v, w ∈ uni) (hl : uni.length ≤ 2000) (hl2 : first.length ≤ 2000) : Fp Tryz.prog (fnv 236) [fv, u] H (fun v' H' => ∃ lb, v' = .func (.func 247) #[] lb ∧ Iter Tryz.prog v' YV H' (wavesW f uni.length first)) := by
 refine Fc.of_body (N := 6) func236 rfl kA rfl rfl ?_
 intro w0
 have hcf2 := hcf
 obtain ⟨A, c, rfl, hc1, hc2, hr⟩ := hr.shape
 refine sR (R.box (v := fv) rfl rfl ?_)
 intro b2
 refine R.box rfl cA ?_
 intro b3
 refine aA ?_
 refine nN (T.seq (T.shut .hd ?_))
 intro H3 s3 q3
 refine T.shut .hd ?_
 intro H2 s2 q2
 refine T.region (R.mkf (cs := [_, _]) rfl rfl ?_)
 refine aA ?_
 refine nN (T.ret ?_)
 exact fin1 rfl rfl ⟨rfl, _, rfl, wavesIt_c H2 b3 b2 _ fv first uni f (s2 _ _ (shut1 q3)) (by rw [← hcf2]; exact shut1 q2) ((hr.mono s3).mono s2) ((hfv.mono s3).mono s2) huni hl hl2⟩
theorem leads_c (H : Heap) (v : Value) (xs : List Lk) (a : Int) (hr : RdS pairE H v xs) (hl : xs.length ≤ 1000) (z : Int) : Fv Tryz.prog (fnv 215) [v, .int .i64 a, .int .i64 z] H (.bool (leadsR xs a z)) := by
 refine Fc.of_body (N := 20) func215 rfl kA rfl rfl ?_
 intro w0
 obtain ⟨A, c, rfl, hc1, hc2, hr⟩ := hr.shape
 refine sR (R.box rfl cA ?_)
 intro b5
 refine R.alloc zeroValue4 rfl ?_
 intro b6
 refine nN (T.seq (T.shut (.tl .hd) ?_))
 intro H5 s5 q5
 refine T.region (mA ?_)
 refine R.callp rfl rfl rfl (steps_c _ _ xs false (hr.mono s5) hl) ?_
 intro v10 H10 s10 q10
 obtain ⟨hcf, hst⟩ := q10
 refine aA ?_
 refine nN (T.seq (sR (mA ?_)))
 refine mA ?_
 refine mA ?_
 refine R.callp rfl rfl rfl (hst _ (HLe.refl _) a) ?_
 intro v14 H14 s14 q14
 refine R.callp rfl rfl rfl (waves_it _ _ _ (toL xs a) (endsL false xs) (toL xs) hcf q14 (hst.mono s14) (fun v w hw => to_mem hw) (by rw [ends_len]; omega) (by have := toL_len xs a; omega)) ?_
 intro v15 H15 s15 q15
 obtain ⟨lb, rfl, hit⟩ := q15
 rw [ends_len] at hit
 refine nN (T.block (T.rangeFunc rfl rfl (enters_of func247 kA rfl) hit (fun _ _ _ h => by obtain ⟨w, rfl, _⟩ := h; rfl) rfl (fun pre H' L' => (∀ w ∈ pre, w.any (fun y => decide (z = y)) = false) ∧ L' = [[(b6, .cells #[.bool false] 4)]]) (fun c pre H' L' => c = .ret ∧ (∃ w ∈ pre, w.any (fun y => decide (z = y)) = true) ∧ L' = [[(b6, .cells #[.bool true] 4)]]) (fun _ _ _ _ _ h => h) (fun _ _ _ _ _ _ h => h) ?_ ?_ ?_ ?_))
 exact ⟨fun w h => (by cases h), rfl⟩
 intro l0 r0 w0 pre y vs Hr0 Lr0 sr0 hp0 a0 hY0
 obtain ⟨hno, rfl⟩ := a0
 obtain ⟨w, rfl, hwy⟩ := hY0
 obtain ⟨Ay, cy, rfl, my, ny, hwy⟩ := hwy.shape
 refine T.region (aA ?_)
 refine TL.nil (onlyN.mk ?_)
 refine T.block (sR (mA ?_))
 refine R.ldH isAgg3 rfl rfl ((s10.trans (s14.trans (s15.trans sr0))) _ _ (shut1 q5)) rfl ?_
 refine R.callv rfl rfl rfl (containsI25_c _ _ _ z hwy) ?_
 refine nN (T.cond rfl (fun c19 => ?_) (fun c19 => ?_))
 refine sR (R.st sizeOf4 rfl rfl cA rfl (by first | exact .hd | exact .tl .hd | exact .tl (.tl .hd) | exact .tl (.tl (.tl .hd)) | exact .tl (.tl (.tl (.tl .hd))) | exact .tl (.tl (.tl (.tl (.tl .hd)))) | exact .tl (.tl (.tl (.tl (.tl (.tl .hd))))) | exact .tl (.tl (.tl (.tl (.tl (.tl (.tl .hd)))))) | exact .tl (.tl (.tl (.tl (.tl (.tl (.tl (.tl .hd))))))) | exact .tl (.tl (.tl (.tl (.tl (.tl (.tl (.tl (.tl .hd))))))))) ?_)
 refine nN (T.ret (Post.blkR ?_))
 exact ⟨rfl, ⟨y, by simp, c19⟩, rfl⟩
 refine T.skip (Post.blkN ?_)
 refine id ?_
 refine ⟨fun w hw => ?_, rfl⟩
 rcases List.mem_append.1 hw with hw | hw
 exact hno w hw
 simp at hw; rw [hw]; exact c19
 intro D0 Hr0 Lr0 sr0 a0
 obtain ⟨hno, rfl⟩ := a0
 refine id (Post.blkN ?_)
 refine id (Post.thnN (sR ?_))
 refine R.st sizeOf4 rfl rfl cA rfl (by first | exact .hd | exact .tl .hd | exact .tl (.tl .hd) | exact .tl (.tl (.tl .hd)) | exact .tl (.tl (.tl (.tl .hd))) | exact .tl (.tl (.tl (.tl (.tl .hd)))) | exact .tl (.tl (.tl (.tl (.tl (.tl .hd))))) | exact .tl (.tl (.tl (.tl (.tl (.tl (.tl .hd)))))) | exact .tl (.tl (.tl (.tl (.tl (.tl (.tl (.tl .hd))))))) | exact .tl (.tl (.tl (.tl (.tl (.tl (.tl (.tl (.tl .hd))))))))) ?_
 refine nN (T.ret ?_)
 exact fin1C [] rfl isAgg4 rfl .hd rfl (List.nil_sublist _) ⟨rfl, congrArg Value.bool (leads_no hno).symm⟩
 intro D0 c0 pre y Hr0 Lr0 sr0 hp0 a0
 obtain ⟨rfl, ⟨w, hw, hyes⟩, rfl⟩ := a0
 have hwm := hp0.subset hw
 refine T.ret (Post.blkR (Post.thnR ?_))
 exact fin1C [] rfl isAgg4 rfl .hd rfl (List.nil_sublist _) ⟨rfl, congrArg Value.bool (leads_yes hwm hyes).symm⟩
theorem closes_c (H : Heap) (v : Value) (xs : List Lk) (a : Int) (hr : RdS pairE H v xs) (hl : xs.length ≤ 1000) (z : Int) : Fv Tryz.prog (fnv 184) [v, .int .i64 a, .int .i64 z] H (.bool (decide (a = z) || leadsR xs z a)) := by
 refine Fc.of_body (N := 16) func184 rfl kA rfl rfl ?_
 intro w0
 obtain ⟨A, c, rfl, hc1, hc2, hr⟩ := hr.shape
 refine sR (aA ?_)
 refine nN (sR (mA ?_))
 refine mA ?_
 refine R.eql rfl rfl rfl ?_
 refine mA ?_
 refine TL.gsplitD 10 rfl (fun g10 => ?_) (fun g10 => ?_)
 refine oF ?_
 refine oF ?_
 refine oF ?_
 refine oF ?_
 refine R.pkTE rfl rfl cA ?_
 refine aA ?_
 refine nN (T.ret ?_)
 exact fin1 rfl rfl ⟨rfl, congrArg Value.bool (by simp [g10])⟩
 refine mA ?_
 refine mA ?_
 refine mA ?_
 refine R.callv rfl rfl rfl (leads_c _ _ xs z hr hl a) ?_
 refine R.pkFE rfl rfl cA ?_
 refine aA ?_
 refine nN (T.ret ?_)
 exact fin1 rfl rfl ⟨rfl, congrArg Value.bool (by simp [g10])⟩
end Go.SX.CH
namespace Go.SX
open Go
theorem Wk.split {to : Int → List Int} : ∀ {p : List Int} {y : Int} {r : List Int}, Wk to (p ++ y :: r) ↔ Wk to (p ++ [y]) ∧ Wk to (y :: r)
  | [], y, r => ⟨fun h => ⟨trivial, h⟩, fun h => h.2⟩
  | [a], y, r => by
    show (y ∈ to a ∧ Wk to (y :: r)) ↔ ((y ∈ to a ∧ True) ∧ Wk to (y :: r))
    simp
  | a :: b :: p, y, r => by
    have ih := Wk.split (to := to) (p := b :: p) (y := y) (r := r)
    show (b ∈ to a ∧ Wk to ((b :: p) ++ y :: r)) ↔ ((b ∈ to a ∧ Wk to ((b :: p) ++ [y])) ∧ Wk to (y :: r))
    rw [ih]
    simp [and_assoc]
theorem lastI_app (p : List Int) (y : Int) (r : List Int) : lastI (p ++ y :: r) = lastI (y :: r) := by
  unfold lastI; rw [List.getLast?_append]; simp [List.getLast?_cons]
theorem Wy.pre {to : Int → List Int} {a z y : Int} {p r : List Int} (h : Wy to a z (p ++ y :: r)) : Wy to a y (p ++ [y]) := by
  obtain ⟨h1, h2, h3⟩ := h
  refine ⟨(Wk.split.1 h1).1, ?_, lastI_snoc _ _⟩
  cases p with
  | nil => exact h2
  | cons x q => exact h2
theorem Wy.suf {to : Int → List Int} {a z y : Int} {p r : List Int} (h : Wy to a z (p ++ y :: r)) : Wy to y z (y :: r) := by
  obtain ⟨h1, h2, h3⟩ := h
  exact ⟨(Wk.split.1 h1).2, rfl, by rw [← h3, lastI_app]⟩
end Go.SX
namespace Go.SX
open Go
end Go.SX
namespace Go.SX
open Go
theorem not_take {l : List Int} (h : l.Nodup) {k : Nat} {v : Int} (hv : l[k]? = some v) : v ∉ l.take k := fun hm => by
  obtain ⟨j, hj⟩ := List.mem_iff_getElem?.1 hm
  have hjl := (List.getElem?_eq_some_iff.1 hj).1
  have hjk : j < k := by simp at hjl; omega
  rw [List.getElem?_take_of_lt hjk] at hj
  obtain ⟨h1, h2⟩ := List.getElem?_eq_some_iff.1 hj
  obtain ⟨h3, h4⟩ := List.getElem?_eq_some_iff.1 hv
  exact (List.pairwise_iff_getElem.1 h) j k h1 h3 hjk (h2.trans h4.symm)
end Go.SX
namespace Go.SX
end Go.SX
namespace Go.SX
open Go
def CntIs (m : MapL) (c : Int → Int) (K : Int → Prop) : Prop := (m.map Prod.fst).Nodup ∧ (∀ k, k ∈ m.map Prod.fst ↔ K k) ∧ ∀ k, (mget m k).getD (.int .i64 0) = .int .i64 (c k)
theorem CntIs.nil : CntIs [] (fun _ => 0) (fun _ => False) := ⟨by simp, fun k => by simp, fun k => rfl⟩
theorem CntIs.put {m : MapL} {c : Int → Int} {K : Int → Prop} (h : CntIs m c K) (k n : Int) : CntIs (mput m k (.int .i64 n)) (fun j => if j = k then n else c j) (fun j => j = k ∨ K j) := by
  obtain ⟨h1, h2, h3⟩ := h
  refine ⟨mput_nodup _ _ _ h1, fun j => by rw [mput_keys, h2], fun j => ?_⟩
  rw [mget_mput]
  by_cases e : j = k
  · rw [if_pos e]; simp [e]
  · rw [if_neg e, h3]; simp [e]
theorem CntIs.congr {m : MapL} {c c' : Int → Int} {K K' : Int → Prop} (h : CntIs m c K) (hc : ∀ k, c k = c' k) (hK : ∀ k, K k ↔ K' k) : CntIs m c' K' := ⟨h.1, fun k => (h.2.1 k).trans (hK k), fun k => by rw [h.2.2, hc]⟩
def dg (xs : List Lk) (R : List Int) (w : Int) : Nat := xs.countP (fun y => decide (y.1 = w) && !decide (y.2 ∈ R))
def isV (xs : List Lk) (k : Int) : Prop := ∃ y ∈ xs, y.1 = k ∨ y.2 = k
def cntN (xs : List Lk) (i : Nat) (k : Int) : Int := ((xs.take i).countP (fun y => decide (y.1 = k)) : Nat)
theorem cnt_step {xs : List Lk} {i : Nat} {y : Lk} {m : MapL} (hy : xs[i]? = some y) (h : CntIs m (cntN xs i) (isV (xs.take i))) :
    CntIs (mput (mput m y.1 (.int .i64 (cntN xs i y.1 + 1))) y.2 (.int .i64 ((if y.2 = y.1 then cntN xs i y.1 + 1 else cntN xs i y.2) + 0))) (cntN xs (i + 1)) (isV (xs.take (i + 1))) := by
  refine ((h.put y.1 _).put y.2 _).congr (fun k => ?_) (fun k => ?_)
  · have e : cntN xs (i + 1) k = cntN xs i k + (if y.1 = k then 1 else 0) := by
      unfold cntN
      rw [take_snoc _ _ _ hy, List.countP_append]
      by_cases h : y.1 = k
      · simp [h]
      · simp [h]
    rw [e]
    by_cases h2 : k = y.2
    · subst h2
      by_cases h1 : y.2 = y.1
      · simp [h1]
      · simp [h1, Ne.symm h1]
    · by_cases h1 : k = y.1
      · subst h1; simp [h2]
      · simp [h2, h1, Ne.symm h1]
  · unfold isV
    rw [take_snoc _ _ _ hy]
    constructor
    · rintro (rfl | rfl | ⟨z, hz, h1⟩)
      · exact ⟨y, by simp, .inr rfl⟩
      · exact ⟨y, by simp, .inl rfl⟩
      · exact ⟨z, List.mem_append_left _ hz, h1⟩
    · rintro ⟨z, hz, h1⟩
      rcases List.mem_append.1 hz with hz | hz
      · exact .inr (.inr ⟨z, hz, h1⟩)
      · simp at hz; subst hz
        rcases h1 with h1 | h1
        · exact .inr (.inl h1.symm)
        · exact .inl h1.symm
theorem cntN_le (xs : List Lk) (i : Nat) (k : Int) : 0 ≤ cntN xs i k ∧ cntN xs i k ≤ xs.length := by
  unfold cntN
  have h1 := List.countP_le_length (p := fun y : Lk => decide (y.1 = k)) (l := xs.take i)
  simp at h1; omega
theorem cnt_all (xs : List Lk) (k : Int) : cntN xs xs.length k = dg xs [] k := by
  unfold cntN dg; rw [List.take_length]; simp
theorem map_entry {ik : IntKind} {es : Array MapEntry} {m : MapL} (h : MapIs ik es m) {e : MapEntry} (he : e ∈ es.toList) : ∃ q ∈ m, e.key = .int ik q.1 ∧ e.val = q.2 := by
  have h1 : (e.key, e.val) ∈ es.toList.map (fun e => (e.key, e.val)) := List.mem_map.2 ⟨e, he, rfl⟩
  rw [h] at h1
  obtain ⟨q, hq, h2⟩ := List.mem_map.1 h1
  injection h2 with h2 h3
  exact ⟨q, hq, h2.symm, h3.symm⟩
theorem mget_mem : ∀ {m : MapL} {q : Int × Value}, (m.map Prod.fst).Nodup → q ∈ m → mget m q.1 = some q.2
  | [], _, _, h => by cases h
  | r :: m, q, hn, h => by
    rw [List.map_cons, List.nodup_cons] at hn
    rcases List.mem_cons.1 h with rfl | h
    · exact mget_cons_eq rfl
    · have : r.1 ≠ q.1 := fun e => hn.1 (e ▸ List.mem_map.2 ⟨q, h, rfl⟩)
      rw [k_b1 this]; exact mget_mem hn.2 h
theorem cnt_entry {es : Array MapEntry} {m : MapL} {c : Int → Int} {K : Int → Prop} (hi : MapIs .i64 es m) (h : CntIs m c K) {e : MapEntry} (he : e ∈ es.toList) : ∃ k, e.key = .int .i64 k ∧ e.val = .int .i64 (c k) ∧ K k := by
  obtain ⟨q, hq, h1, h2⟩ := map_entry hi he
  have h3 := mget_mem h.1 hq
  have h4 := h.2.2 q.1
  rw [h3] at h4
  exact ⟨q.1, h1, h2.trans h4, (h.2.1 q.1).1 (List.mem_map.2 ⟨q, hq, rfl⟩)⟩
theorem key_entry {es : Array MapEntry} {m : MapL} {c : Int → Int} {K : Int → Prop} (hi : MapIs .i64 es m) (h : CntIs m c K) {k : Int} (hk : K k) : ∃ e ∈ es.toList, e.key = .int .i64 k := by
  obtain ⟨q, hq, h1⟩ := List.mem_map.1 ((h.2.1 k).2 hk)
  have h2 : (Value.int .i64 q.1, q.2) ∈ m.map (fun q => (Value.int .i64 q.1, q.2)) := List.mem_map.2 ⟨q, hq, rfl⟩
  rw [← hi] at h2
  obtain ⟨e, he, h3⟩ := List.mem_map.1 h2
  injection h3 with h3 h4
  exact ⟨e, he, by rw [h3, h1]⟩
theorem same_born {es : Array MapEntry} {clock : Nat} {m : MapL} {c : Int → Int} {K : Int → Prop} (hi : MapIs .i64 es m) (hb : BornOk es clock) (h : CntIs m c K) {e f : MapEntry} (he : e ∈ es.toList) (hf : f ∈ es.toList) : e.born = f.born ↔ e.key = f.key := by
  obtain ⟨i, hi1⟩ := List.mem_iff_getElem?.1 he
  obtain ⟨j, hj1⟩ := List.mem_iff_getElem?.1 hf
  obtain ⟨h1, h2⟩ := List.getElem?_eq_some_iff.1 hi1
  obtain ⟨h3, h4⟩ := List.getElem?_eq_some_iff.1 hj1
  have hm : es.toList.length = m.length := by have := congrArg List.length hi; simpa using this
  have hbi : ∀ a b (ha : a < es.toList.length) (hb2 : b < es.toList.length), a < b → (es.toList[a]).born < (es.toList[b]).born := fun a b ha hb2 hab => by
    have := List.pairwise_iff_getElem.1 hb.1 a b (by simpa using ha) (by simpa using hb2) hab
    simpa using this
  have hki : ∀ a (ha : a < es.toList.length), (es.toList[a]).key = .int .i64 (m[a]'(by omega)).1 := fun a ha => by
    have := congrArg (fun l => l[a]?) hi
    simp only [List.getElem?_map, List.getElem?_eq_getElem ha, List.getElem?_eq_getElem (show a < m.length by omega), Option.map_some, Option.some.injEq, Prod.mk.injEq] at this
    exact this.1
  have hkn : ∀ a b (ha : a < es.toList.length) (hb2 : b < es.toList.length), a < b → (es.toList[a]).key ≠ (es.toList[b]).key := fun a b ha hb2 hab e => by
    rw [hki a ha, hki b hb2] at e
    injection e with _ e
    have := List.pairwise_iff_getElem.1 h.1 a b (by simp; omega) (by simp; omega) hab
    simp at this
    exact this e
  rcases Nat.lt_trichotomy i j with hij | hij | hij
  · constructor
    · intro e1; have := hbi i j h1 h3 hij; rw [h2, h4] at this; omega
    · intro e1; have := hkn i j h1 h3 hij; rw [h2, h4] at this; exact absurd e1 this
  · subst hij; rw [hi1] at hj1; injection hj1 with hj1; subst hj1; exact ⟨fun _ => rfl, fun _ => rfl⟩
  · constructor
    · intro e1; have := hbi j i h3 h1 hij; rw [h2, h4] at this; omega
    · intro e1; have := hkn j i h3 h1 hij; rw [h2, h4] at this; exact absurd e1.symm this
structure Seen (es : Array MapEntry) (K : Int → Prop) (sn : Array Nat) (vk : List Int) : Prop where
  eq : ∀ e ∈ es.toList, ∀ k, e.key = .int .i64 k → (e.born ∈ sn ↔ k ∈ vk)
  nd : vk.Nodup
  sub : ∀ k ∈ vk, K k
theorem Seen.nil (es : Array MapEntry) (K : Int → Prop) : Seen es K #[] [] := ⟨fun e he k hk => by simp, by simp, fun k h => by cases h⟩
theorem Seen.step {es : Array MapEntry} {clock : Nat} {m : MapL} {c : Int → Int} {K : Int → Prop} {sn : Array Nat} {vk : List Int} (h : Seen es K sn vk) (hi : MapK .i64 es clock m) (hc : CntIs m c K) {e : MapEntry} (he : e ∈ es.toList) (hn : e.born ∉ sn) {k : Int} (hk : e.key = .int .i64 k) (hK : K k) :
    Seen es K (sn.push e.born) (vk ++ [k]) ∧ k ∉ vk := by
  have hkv : k ∉ vk := fun hm => hn ((h.eq e he k hk).2 hm)
  refine ⟨⟨fun f hf j hj => ?_, ?_, fun j hj => ?_⟩, hkv⟩
  · rw [Array.mem_push, List.mem_append, List.mem_singleton, h.eq f hf j hj]
    have h1 := same_born hi.1 hi.2 hc hf he
    rw [h1, hj, hk]
    constructor
    · rintro (h2 | h2)
      · exact .inl h2
      · injection h2 with _ h2; exact .inr h2
    · rintro (h2 | h2)
      · exact .inl h2
      · exact .inr (by rw [h2])
  · refine List.nodup_append.2 ⟨h.nd, by simp, fun x hx y hy => ?_⟩
    simp at hy; subst hy
    exact fun e => hkv (e ▸ hx)
  · rcases List.mem_append.1 hj with hj | hj
    · exact h.sub j hj
    · simp at hj; rw [hj]; exact hK
theorem Seen.over {es : Array MapEntry} {m : MapL} {c : Int → Int} {K : Int → Prop} {sn : Array Nat} {vk : List Int} (h : Seen es K sn vk) (hi : MapIs .i64 es m) (hc : CntIs m c K) (hall : ∀ e ∈ es.toList, e.born ∈ sn) (k : Int) : k ∈ vk ↔ K k := by
  refine ⟨h.sub k, fun hk => ?_⟩
  obtain ⟨e, he, h1⟩ := key_entry hi hc hk
  exact (h.eq e he k h1).1 (hall e he)
theorem Seen.len {es : Array MapEntry} {m : MapL} {c : Int → Int} {K : Int → Prop} {sn : Array Nat} {vk : List Int} (h : Seen es K sn vk) (hc : CntIs m c K) : vk.length ≤ m.length := by
  have := nodup_len (u := m.map Prod.fst) h.nd (fun x hx => (hc.2.1 x).2 (h.sub x hx))
  simpa using this
structure KI (xs : List Lk) (R F : List Int) : Prop where
  nd : (R ++ F).Nodup
  mem : ∀ w, w ∈ R ++ F ↔ isV xs w ∧ dg xs R w = 0
  rank : ∀ (i : Nat) w, R[i]? = some w → ∀ x ∈ toL xs w, x ∈ R.take i
theorem dg_zero {xs : List Lk} (hc : chainB xs = true) {R : List Int} {w : Int} : dg xs R w = 0 ↔ ∀ x ∈ toL xs w, x ∈ R := by
  unfold dg toL
  rw [if_pos hc, List.countP_eq_zero]
  constructor
  · intro h x hx
    obtain ⟨y, hy, rfl⟩ := List.mem_map.1 hx
    obtain ⟨h1, h2⟩ := List.mem_filter.1 hy
    have := h y h1
    simp [of_decide_eq_true h2] at this
    exact this
  · intro h y hy
    simp only [Bool.and_eq_true, decide_eq_true_eq, Bool.not_eq_true', decide_eq_false_iff_not, not_and, Decidable.not_not]
    intro e
    exact h y.2 (List.mem_map.2 ⟨y, List.mem_filter.2 ⟨hy, by simp [e]⟩, rfl⟩)
theorem dg_snoc {xs : List Lk} (hc : chainB xs = true) {R : List Int} {v w : Int} (hv : v ∉ R) : dg xs R w = dg xs (R ++ [v]) w + (if w ∈ fromL xs v then 1 else 0) := by
  have hu := (chainB_iff.1 hc).2.2
  have hmem : w ∈ fromL xs v ↔ (w, v) ∈ xs := by
    unfold fromL; rw [if_pos hc]
    constructor
    · intro h
      obtain ⟨y, hy, rfl⟩ := List.mem_map.1 h
      obtain ⟨h1, h2⟩ := List.mem_filter.1 hy
      rw [← of_decide_eq_true h2]; exact h1
    · intro h; exact List.mem_map.2 ⟨(w, v), List.mem_filter.2 ⟨h, by simp⟩, rfl⟩
  have key : ∀ (l : List Lk), UpP l → dg l R w = dg l (R ++ [v]) w + (if (w, v) ∈ l then 1 else 0) := by
    intro l
    induction l with
    | nil => intro _; simp [dg]
    | cons y l ih =>
      intro hup
      obtain ⟨h1, h2⟩ := List.pairwise_cons.1 hup
      have ih := ih h2
      unfold dg at ih ⊢
      rw [List.countP_cons, List.countP_cons, ih]
      by_cases e : y = (w, v)
      · subst e
        have hnl : (w, v) ∉ l := fun hm => by have := h1 _ hm; unfold ltP at this; omega
        simp [hv, hnl]
      · have h3 : (w, v) ∈ y :: l ↔ (w, v) ∈ l := by
          rw [List.mem_cons]
          exact ⟨fun h => h.elim (fun x => absurd x.symm e) id, .inr⟩
        have h4 : (decide (y.1 = w) && !decide (y.2 ∈ R)) = (decide (y.1 = w) && !decide (y.2 ∈ R ++ [v])) := by
          by_cases h5 : y.1 = w
          · have h6 : y.2 ≠ v := fun x => e (by rw [← h5, ← x])
            simp [h5, h6]
          · simp [h5]
        rw [h4]
        simp only [h3]
        omega
  rw [key xs hu]
  simp only [hmem]
theorem from_nodup {xs : List Lk} (v : Int) : (fromL xs v).Nodup := by
  unfold fromL
  split
  · rename_i hc
    have hu := (chainB_iff.1 hc).2.2
    refine List.pairwise_map.2 ?_
    refine (List.Pairwise.sublist List.filter_sublist hu).imp_of_mem (fun {x y} hx hy hxy => ?_)
    have h1 := of_decide_eq_true (List.mem_filter.1 hx).2
    have h2 := of_decide_eq_true (List.mem_filter.1 hy).2
    unfold ltP at hxy; omega
  · exact List.nodup_nil
theorem from_isV {xs : List Lk} {v w : Int} (h : w ∈ fromL xs v) : isV xs w := by
  unfold fromL at h
  split at h
  · obtain ⟨y, hy, rfl⟩ := List.mem_map.1 h
    exact ⟨y, (List.mem_filter.1 hy).1, .inl rfl⟩
  · cases h
def cI (xs : List Lk) (R : List Int) (v : Int) (i : Nat) (w : Int) : Int := (dg xs R w : Int) - (if w ∈ (fromL xs v).take i then 1 else 0)
def fI (xs : List Lk) (R F : List Int) (v : Int) (i : Nat) : List Int := F ++ ((fromL xs v).take i).filter (fun w => decide (cI xs R v (fromL xs v).length w = 0))
theorem cI_last {xs : List Lk} (hc : chainB xs = true) {R : List Int} {v : Int} (hv : v ∉ R) (w : Int) : cI xs R v (fromL xs v).length w = dg xs (R ++ [v]) w := by
  unfold cI
  rw [List.take_length, dg_snoc hc hv]
  split <;> simp <;> omega
theorem cI_zero (xs : List Lk) (R : List Int) (v w : Int) : cI xs R v 0 w = dg xs R w := by simp [cI]
theorem cI_step {xs : List Lk} {R : List Int} {v : Int} {i : Nat} {w : Int} (hw : (fromL xs v)[i]? = some w) : (fun j => if j = w then cI xs R v i w - 1 else cI xs R v i j) = cI xs R v (i + 1) := by
  have hn := not_take (from_nodup v) hw
  funext j
  unfold cI
  rw [take_snoc _ _ _ hw]
  by_cases e : j = w
  · subst e; rw [if_pos rfl, if_neg hn, if_pos (by simp)]; omega
  · rw [if_neg e]; simp [e]
theorem cI_at {xs : List Lk} {R : List Int} {v : Int} {i : Nat} {w : Int} (hw : (fromL xs v)[i]? = some w) : cI xs R v (i + 1) w = cI xs R v (fromL xs v).length w := by
  unfold cI
  rw [take_snoc _ _ _ hw, List.take_length, if_pos (by simp), if_pos (List.mem_of_getElem? hw)]
theorem fI_yes {xs : List Lk} {R F : List Int} {v : Int} {i : Nat} {w : Int} (hw : (fromL xs v)[i]? = some w) (h : cI xs R v (i + 1) w = 0) : fI xs R F v (i + 1) = fI xs R F v i ++ [w] := by
  unfold fI
  rw [take_snoc _ _ _ hw, List.filter_append, cI_at hw] at *
  simp [h]
theorem fI_no {xs : List Lk} {R F : List Int} {v : Int} {i : Nat} {w : Int} (hw : (fromL xs v)[i]? = some w) (h : ¬ cI xs R v (i + 1) w = 0) : fI xs R F v (i + 1) = fI xs R F v i := by
  unfold fI
  rw [take_snoc _ _ _ hw, List.filter_append]
  rw [cI_at hw] at h
  simp [h]
theorem KI.go {xs : List Lk} (hc : chainB xs = true) {R F : List Int} {v : Int} (h : KI xs R (F ++ [v])) : KI xs (R ++ [v]) (fI xs R F v (fromL xs v).length) := by
  have hvR : v ∉ R := fun hm => (List.nodup_append.1 h.nd).2.2 v hm v (by simp) rfl
  have hcl := fun w => cI_last hc hvR w
  have hmem : ∀ w, w ∈ fI xs R F v (fromL xs v).length ↔ w ∈ F ∨ (w ∈ fromL xs v ∧ dg xs (R ++ [v]) w = 0) := fun w => by
    unfold fI
    rw [List.take_length, List.mem_append, List.mem_filter]
    simp only [hcl, decide_eq_true_eq]
    constructor
    · rintro (h1 | ⟨h1, h2⟩)
      · exact .inl h1
      · exact .inr ⟨h1, by omega⟩
    · rintro (h1 | ⟨h1, h2⟩)
      · exact .inl h1
      · exact .inr ⟨h1, by omega⟩
  refine ⟨?_, fun w => ?_, fun i w hi x hx => ?_⟩
  · have hn1 : (R ++ [v] ++ F).Nodup := by
      have h1 := h.nd
      have hp : (R ++ (F ++ [v])).Perm (R ++ [v] ++ F) := by
        rw [List.append_assoc]
        exact List.Perm.append_left R List.perm_append_comm
      exact hp.nodup_iff.1 h1
    unfold fI
    rw [List.take_length, ← List.append_assoc]
    refine List.nodup_append.2 ⟨hn1, List.Pairwise.sublist List.filter_sublist (from_nodup v), fun a ha b hb e => ?_⟩
    subst e
    obtain ⟨h1, h2⟩ := List.mem_filter.1 hb
    have h3 : a ∈ R ++ (F ++ [v]) := by
      simp only [List.mem_append, List.mem_singleton] at ha ⊢
      rcases ha with (h4 | h4) | h4
      · exact .inl h4
      · exact .inr (.inr h4)
      · exact .inr (.inl h4)
    have h4 := ((h.mem a).1 h3).2
    have h5 := dg_snoc hc (w := a) hvR
    rw [if_pos h1] at h5
    omega
  · have h5 := dg_snoc hc (w := w) hvR
    rw [List.mem_append, hmem]
    constructor
    · rintro (h1 | h1 | ⟨h1, h2⟩)
      · rcases List.mem_append.1 h1 with h1 | h1
        · have := (h.mem w).1 (List.mem_append_left _ h1); exact ⟨this.1, by omega⟩
        · simp at h1; subst h1
          have := (h.mem w).1 (by simp); exact ⟨this.1, by omega⟩
      · have := (h.mem w).1 (by simp [h1]); exact ⟨this.1, by omega⟩
      · exact ⟨from_isV h1, h2⟩
    · rintro ⟨h1, h2⟩
      by_cases hw : w ∈ fromL xs v
      · exact .inr (.inr ⟨hw, h2⟩)
      · rw [if_neg hw] at h5
        have := (h.mem w).2 ⟨h1, by omega⟩
        simp only [List.mem_append, List.mem_singleton] at this ⊢
        rcases this with h3 | h3 | h3
        · exact .inl (.inl h3)
        · exact .inr (.inl h3)
        · exact .inl (.inr h3)
  · rcases Nat.lt_or_ge i R.length with h1 | h1
    · rw [List.getElem?_append_left h1] at hi
      rw [List.take_append_of_le_length (by omega)]
      exact h.rank i w hi x hx
    · rw [List.getElem?_append_right h1] at hi
      have hi0 : i = R.length := by have := (List.getElem?_eq_some_iff.1 hi).1; simp at this; omega
      subst hi0
      simp at hi; subst hi
      have h2 := ((h.mem v).1 (by simp)).2
      have := (dg_zero hc).1 h2 x hx
      rw [List.take_append_of_le_length (Nat.le_refl _), List.take_length]; exact this
def roundR (xs : List Lk) : Bool := chainB xs && xs.any (fun y => leadsR xs y.1 y.1)
theorem KI.free {xs : List Lk} (hc : chainB xs = true) {R : List Int} (h : KI xs R []) (hall : ∀ w, isV xs w → w ∈ R) : roundR xs = false := by
  unfold roundR
  rw [hc, Bool.true_and, List.any_eq_false]
  intro y hy hl
  obtain ⟨v, hv, p, hp⟩ := leads_iff.1 hl
  have hto : ∀ a b, b ∈ toL xs a → isV xs b := fun a b hb => by
    unfold toL at hb
    rw [if_pos hc] at hb
    obtain ⟨z, hz, rfl⟩ := List.mem_map.1 hb
    exact ⟨z, (List.mem_filter.1 hz).1, .inr rfl⟩
  have key : ∀ (n : Nat) (p : List Int) (a z : Int) (i : Nat), p.length = n → Wy (toL xs) a z p → a ∈ R.take i → z ∈ R.take i := by
    intro n
    induction n with
    | zero => intro p a z i hl hp; exact absurd (List.length_eq_zero_iff.1 hl) hp.1.ne
    | succ n ih =>
      intro p a z i hl hp ha
      rcases hp.un with ⟨_, rfl⟩ | ⟨b, r, rfl, hb, hr⟩
      · exact ha
      · obtain ⟨j, hj⟩ := List.mem_iff_getElem?.1 ha
        have hji : j < i := by have := (List.getElem?_eq_some_iff.1 hj).1; simp at this; omega
        rw [List.getElem?_take_of_lt hji] at hj
        have h1 := h.rank j a hj b hb
        have h2 := ih (b :: r) b z j (by simpa using hl) hr h1
        have h3 : (R.take j) <+: (R.take i) := List.take_prefix_take_left (by omega)
        exact h3.subset h2
  have hyR := hall y.1 ⟨y, hy, .inl rfl⟩
  obtain ⟨i, hi⟩ := List.mem_iff_getElem?.1 hyR
  have h1 := h.rank i y.1 hi v hv
  have h2 := key _ p v y.1 i rfl hp h1
  have hnd : R.Nodup := by have := h.nd; simpa using this
  exact not_take hnd hi h2
theorem KI.ring {xs : List Lk} (hc : chainB xs = true) {R : List Int} (h : KI xs R []) {w : Int} (hw : isV xs w) (hn : w ∉ R) : roundR xs = true := by
  have hstep : ∀ a, isV xs a → a ∉ R → ∃ b, b ∈ toL xs a ∧ isV xs b ∧ b ∉ R := fun a ha hna => by
    have h1 : ¬ dg xs R a = 0 := fun e => hna (by have := (h.mem a).2 ⟨ha, e⟩; simpa using this)
    rw [dg_zero hc] at h1
    obtain ⟨b, hb⟩ := Classical.not_forall.1 h1
    have h2 := Classical.not_imp.1 hb
    refine ⟨b, h2.1, ?_, h2.2⟩
    have h3 := h2.1
    unfold toL at h3
    rw [if_pos hc] at h3
    obtain ⟨z, hz, rfl⟩ := List.mem_map.1 h3
    exact ⟨z, (List.mem_filter.1 hz).1, .inr rfl⟩
  have hlong : ∀ n : Nat, ∃ p z, p.length = n + 1 ∧ Wy (toL xs) w z p ∧ (∀ x ∈ p, isV xs x ∧ x ∉ R) := by
    intro n
    induction n with
    | zero => exact ⟨[w], w, rfl, Wy.one _ _, fun x hx => by simp at hx; subst hx; exact ⟨hw, hn⟩⟩
    | succ n ih =>
      obtain ⟨p, z, hl, hp, hall⟩ := ih
      have hz : z ∈ p := by
        have h1 := hp.2.2
        have hne := hp.1.ne
        have : p.getLast? = some z := by rw [List.getLast?_eq_some_getLast hne]; unfold lastI at h1; rw [List.getLast?_eq_some_getLast hne] at h1; simpa using h1
        exact List.mem_of_getLast? this
      obtain ⟨b, hb, hb2, hb3⟩ := hstep z (hall z hz).1 (hall z hz).2
      exact ⟨p ++ [b], b, by simp [hl], hp.snoc hb, fun x hx => by
        rcases List.mem_append.1 hx with hx | hx
        · exact hall x hx
        · simp at hx; subst hx; exact ⟨hb2, hb3⟩⟩
  obtain ⟨p, z, hl, hp, hall⟩ := hlong (2 * xs.length)
  have hdup : ¬ p.Nodup := fun hnd => by
    have := nodup_len (u := xs.map (·.1) ++ xs.map (·.2)) hnd (fun x hx => by
      obtain ⟨y, hy, h1⟩ := (hall x hx).1
      rcases h1 with rfl | rfl
      · exact List.mem_append_left _ (List.mem_map.2 ⟨y, hy, rfl⟩)
      · exact List.mem_append_right _ (List.mem_map.2 ⟨y, hy, rfl⟩))
    simp at this; omega
  have hsplit : ∀ (p : List Int), ¬ p.Nodup → ∃ a q r s, p = q ++ a :: (r ++ a :: s) := by
    intro p
    induction p with
    | nil => intro h; exact absurd List.nodup_nil h
    | cons x p ih =>
      intro h
      by_cases hx : x ∈ p
      · obtain ⟨r, s, rfl⟩ := List.append_of_mem hx
        exact ⟨x, [], r, s, rfl⟩
      · obtain ⟨a, q, r, s, rfl⟩ := ih (fun hnd => h (List.nodup_cons.2 ⟨hx, hnd⟩))
        exact ⟨a, x :: q, r, s, rfl⟩
  obtain ⟨a, q, r, s, rfl⟩ := hsplit p hdup
  have h1 := hp.suf
  have e : a :: (r ++ a :: s) = (a :: r) ++ a :: s := rfl
  rw [e] at h1
  have h2 := h1.pre
  rcases h2.un with ⟨e2, _⟩ | ⟨b, t, e2, hb, ht⟩
  · simp at e2
  · have hl2 : leadsR xs a a = true := leads_iff.2 ⟨b, hb, _, ht⟩
    have hlink : ∃ y ∈ xs, y.1 = a := by
      unfold toL at hb
      rw [if_pos hc] at hb
      obtain ⟨y, hy, _⟩ := List.mem_map.1 hb
      exact ⟨y, (List.mem_filter.1 hy).1, of_decide_eq_true (List.mem_filter.1 hy).2⟩
    obtain ⟨y, hy, rfl⟩ := hlink
    unfold roundR
    rw [hc, Bool.true_and, List.any_eq_true]
    exact ⟨y, hy, hl2⟩
theorem KI.start {xs : List Lk} {F : List Int} (hn : F.Nodup) (hF : ∀ w, w ∈ F ↔ isV xs w ∧ dg xs [] w = 0) : KI xs [] F := ⟨by simpa using hn, fun w => by rw [List.nil_append]; exact hF w, fun i w h => by simp at h⟩
theorem round_end {xs : List Lk} (hc : chainB xs = true) {R : List Int} {m : MapL} {c : Int → Int} (h : KI xs R []) (hm : CntIs m c (isV xs)) : decide (((m.length : Int) - R.length) > 0) = roundR xs := by
  have hnd : R.Nodup := by have := h.nd; simpa using this
  have hsub : ∀ w ∈ R, w ∈ m.map Prod.fst := fun w hw => (hm.2.1 w).2 ((h.mem w).1 (by simpa using hw)).1
  have hle := nodup_len hnd hsub
  simp only [List.length_map] at hle
  by_cases hall : ∀ w, isV xs w → w ∈ R
  · rw [h.free hc hall]
    have := nodup_len (u := R) hm.1 (fun w hw => hall w ((hm.2.1 w).1 hw))
    simp only [List.length_map] at this
    exact decide_eq_false (by omega)
  · obtain ⟨w, hw⟩ := Classical.not_forall.1 hall
    have h1 := Classical.not_imp.1 hw
    rw [h.ring hc h1.1 h1.2]
    refine decide_eq_true ?_
    have h2 : w ∈ m.map Prod.fst := (hm.2.1 w).2 h1.1
    have := nodup_len (l := w :: R) (u := m.map Prod.fst) (List.nodup_cons.2 ⟨h1.2, hnd⟩) (fun x hx => by
      rcases List.mem_cons.1 hx with rfl | hx
      · exact h2
      · exact hsub x hx)
    simp only [List.length_map, List.length_cons] at this
    omega
end Go.SX
namespace Go.SX
open Go
theorem map_size {ik : IntKind} {es : Array MapEntry} {m : MapL} (h : MapIs ik es m) : es.size = m.length := by have := congrArg List.length h; simpa using this
theorem mput_len : ∀ (m : MapL) (k : Int) (v : Value), k ∈ m.map Prod.fst → (mput m k v).length = m.length
  | [], k, v, h => by simp at h
  | q :: m, k, v, h => by
    unfold mput
    by_cases hq : q.1 = k
    · rw [if_pos hq]; simp
    · rw [if_neg hq, List.length_cons, List.length_cons]
      rw [List.map_cons, List.mem_cons] at h
      rw [mput_len m k v (h.resolve_left (fun e => hq e.symm))]
theorem isV_take (xs : List Lk) (k : Int) : isV (xs.take xs.length) k ↔ isV xs k := by rw [List.take_length]
theorem cnt_full {xs : List Lk} {m : MapL} (h : CntIs m (cntN xs xs.length) (isV (xs.take xs.length))) : CntIs m (fun w => (dg xs [] w : Int)) (isV xs) := h.congr (fun k => cnt_all xs k) (isV_take xs)
theorem cnt_len {xs : List Lk} {m : MapL} {c : Int → Int} (h : CntIs m c (isV xs)) : m.length ≤ 2 * xs.length := by
  have := nodup_len (u := xs.map (·.1) ++ xs.map (·.2)) h.1 (fun x hx => by
    obtain ⟨y, hy, h1⟩ := (h.2.1 x).1 hx
    rcases h1 with rfl | rfl
    · exact List.mem_append_left _ (List.mem_map.2 ⟨y, hy, rfl⟩)
    · exact List.mem_append_right _ (List.mem_map.2 ⟨y, hy, rfl⟩))
  simp at this; omega
theorem KI.len {xs : List Lk} {R F : List Int} {m : MapL} {c : Int → Int} (h : KI xs R F) (hm : CntIs m c (isV xs)) : R.length + F.length ≤ m.length := by
  have := nodup_len (u := m.map Prod.fst) h.nd (fun x hx => (hm.2.1 x).2 ((h.mem x).1 hx).1)
  simpa using this
theorem dg_le (xs : List Lk) (R : List Int) (w : Int) : dg xs R w ≤ xs.length := List.countP_le_length
theorem cI_bnd (xs : List Lk) (R : List Int) (v : Int) (i : Nat) (w : Int) : -1 ≤ cI xs R v i w ∧ cI xs R v i w ≤ xs.length := by
  have := dg_le xs R w
  unfold cI; split <;> omega
theorem fI_len (xs : List Lk) (R F : List Int) (v : Int) (i : Nat) : (fI xs R F v i).length ≤ F.length + xs.length := by
  unfold fI
  rw [List.length_append]
  have h1 := List.length_filter_le (fun w => decide (cI xs R v (fromL xs v).length w = 0)) ((fromL xs v).take i)
  have h2 : (fromL xs v).length ≤ xs.length := by
    unfold fromL; split
    · rw [List.length_map]; exact List.length_filter_le _ _
    · simp
  simp only [List.length_take] at h1
  omega
theorem free_start {xs : List Lk} {vk : List Int} (hn : vk.Nodup) (hv : ∀ k, k ∈ vk ↔ isV xs k) : KI xs [] (vk.filter (fun k => decide ((dg xs [] k : Int) = 0))) :=
  KI.start (List.Pairwise.sublist List.filter_sublist hn) (fun w => by rw [List.mem_filter, hv, decide_eq_true_eq]; exact and_congr_right (fun _ => by omega))
theorem fI_zero (xs : List Lk) (R F : List Int) (v : Int) : fI xs R F v 0 = F := by unfold fI; simp
theorem perm4 {a b c : Chunk} : ([a, b, c] : Own).flatten.Perm ([b, a, c] : Own).flatten := by
  simp only [List.flatten_cons, List.flatten_nil, List.append_nil]
  exact List.perm_append_comm_assoc a b c
theorem last_split {l : List Int} (h : l ≠ []) : ∃ F v, l = F ++ [v] := ⟨l.dropLast, l.getLast h, (List.dropLast_concat_getLast h).symm⟩
theorem round_bad {xs : List Lk} (h : chainB xs = false) : roundR xs = false := by unfold roundR; rw [h]; rfl
end Go.SX
namespace Go.SX
theorem filt1_yes {p : Int → Bool} {l : List Int} {k : Int} (h : p k = true) : (l ++ [k]).filter p = l.filter p ++ [k] := by rw [List.filter_append]; simp [h]
theorem filt1_no {p : Int → Bool} {l : List Int} {k : Int} (h : p k = false) : (l ++ [k]).filter p = l.filter p := by rw [List.filter_append]; simp [h]
end Go.SX
namespace Go.SX.CH
open Go Go.Proofs Go.Proofs.Tryz
end Go.SX.CH
namespace Go.SX.CH
open Go Go.Proofs Go.Proofs.Tryz
end Go.SX.CH
namespace Go.SX.CH
open Go Go.Proofs Go.Proofs.Tryz
theorem round_c (H : Heap) (v : Value) (xs : List Lk) (hr : RdS pairE H v xs) (hl : xs.length ≤ 1000) : Fv Tryz.prog (fnv 17) [v] H (.bool (roundR xs)) := by
 refine Fc.of_body (N := 91) func17 rfl kA rfl rfl ?_
 intro w0
 obtain ⟨A, c, rfl, hc1, hc2, hr⟩ := hr.shape
 refine sR (aA ?_)
 refine nN (T.seq (sR (mA ?_)))
 refine R.callv rfl rfl rfl (ccheck_c _ _ _ hr) ?_
 refine R.neq rfl rfl rfl ?_
 refine nN (T.condD rfl (fun a2 => ?_) (fun a2 => ?_))
 have hcb : chainB xs = false := by
   cases h : chainB xs with
   | false => rfl
   | true => rw [h] at a2; exact absurd rfl a2
 refine sR (aA ?_)
 refine nN (T.ret (Post.thnR ?_))
 exact fin1 rfl rfl ⟨rfl, congrArg Value.bool (round_bad hcb).symm⟩
 have hc : chainB xs = true := by
   cases h : chainB xs with
   | true => rfl
   | false => rw [h] at a2; exact absurd (by decide) a2
 refine T.skip (Post.thnN (sR ?_))
 refine R.mkm rfl ?_
 intro a0
 refine aA ?_
 refine nN (sR (mA ?_))
 refine R.callp rfl rfl rfl (steps_c _ _ xs true hr hl) ?_
 intro a5 H19 s19 q19
 obtain ⟨hcf, hst⟩ := q19
 refine aA ?_
 refine nN (T.seq (sR (mA ?_)))
 refine R.len underlying56 rfl rfl ?_
 refine mA ?_
 refine nN (T.block (T.loop (ι := Nat × MapL × Array MapEntry × Nat) (fun ⟨k, m, es, ck⟩ H' L' ds' => k ≤ xs.length ∧ ds' = [] ∧ L' = [[(a0, .map es ck)]] ∧ MapK .i64 es ck m ∧ CntIs m (cntN xs k) (isV (xs.take k))) (fun ⟨k, m, es, ck⟩ => [(3, .map (some a0)), (4, a5), (20, .slice A xs.length c), (21, .int .i64 xs.length), (22, .int .i64 k)]) (fun ⟨k, m, es, ck⟩ => xs.length - k) ((0, [], #[], 0)) ?_ ?_ ?_))
 exact ⟨Nat.zero_le _, rfl, rfl, MapK.nil _, CntIs.nil.congr (fun k => by simp [cntN]) (fun k => by simp [isV])⟩
 exact ⟨rfl, rfl, rfl, rfl, rfl, trivial⟩
 intro ⟨k, m, es, ck⟩ σ0 H_0 L_0 ds_0 s_0 hI_0
 obtain ⟨hk, rfl, rfl, hi, hC⟩ := hI_0
 have hcb := cntN_le xs k
 refine sR (R.lss rfl rfl rfl ?_)
 refine nN (T.seq (T.condD rfl (fun c23 => ?_) (fun c23 => ?_)))
 have hlt : k < xs.length := by omega
 obtain ⟨y, hy⟩ := getk hlt
 have hcb1 := hcb y.1
 have hcb2 := hcb y.2
 have hC1 := hC.put y.1 (cntN xs k y.1 + 1)
 refine T.skip (Post.thnN (T.seq ?_))
 refine T.block (sR ?_)
 obtain ⟨b24, o24, i24, e24⟩ := ((hr.mono s19).mono s_0).elem (hy)
 refine R.ixp underlying56 sizeOf71 rfl rfl rfl oA i24 ?_
 refine R.ldP isAgg71 sizeOf71 rfl rfl (e24) ?_
 refine R.alloc zeroValue71 rfl ?_
 intro b6
 refine R.stA (old := [.int .i64 0, .int .i64 0]) sizeOf71 rfl rfl rfl rfl rfl (by intro v hv; simp at hv; rcases hv with rfl | rfl <;> rfl) .hd ?_
 refine nN (T.seq (T.shut .hd ?_))
 intro H6 s6 q6
 have h6 : H6 b6 = some (.cells #[.int .i64 y.1, .int .i64 y.2] 71) := shut1 q6
 refine T.region (mA ?_)
 refine fA underlying71 rfl sizeOf3 ?_
 refine R.ldH isAgg3 rfl rfl (h6) rfl ?_
 refine R.lku underlying123 underlying3 zeroValue3 rfl rfl rfl .hd hi.1 ?_
 refine TL.set 29 (.int .i64 (cntN xs k y.1)) (hC.2.2 y.1) ?_
 refine R.addI rfl rfl rfl oA ?_
 refine R.mupK underlying123 underlying3 rfl rfl rfl rfl .hd hi ?_
 intro es30 ck30 i30
 refine nN (T.region (mA ?_))
 refine fA underlying71 rfl sizeOf3 ?_
 refine R.ldH isAgg3 rfl rfl (h6) rfl ?_
 refine R.lku underlying123 underlying3 zeroValue3 rfl rfl rfl .hd i30.1 ?_
 refine TL.set 34 (.int .i64 (if y.2 = y.1 then cntN xs k y.1 + 1 else cntN xs k y.2)) (hC1.2.2 y.2) ?_
 refine R.addI rfl rfl rfl (by split <;> omega) ?_
 refine R.mupK underlying123 underlying3 rfl rfl rfl rfl .hd i30 ?_
 intro es35 ck35 i35
 refine TL.nil (Post.blkN ?_)
 refine id (Post.thnN (T.region ?_))
 refine R.addI rfl rfl rfl oA ?_
 refine mA ?_
 refine nN ?_
 exact ⟨(k + 1, _, es35, ck35), s_0.trans s6, ⟨by show k + 1 ≤ _; omega, rfl, rfl, i35, cnt_step hy hC⟩, by show xs.length - (k + 1) < xs.length - k; omega, ⟨rfl, rfl, rfl, rfl, rfl, trivial⟩⟩
 have hkx : k = xs.length := by omega
 subst hkx
 have hC := cnt_full hC
 refine T.exit (Post.thnE (Post.thnE (Post.blkX ?_)))
 refine id (Post.thnN (sR ?_))
 refine aA ?_
 refine nN (T.seq (sR (mA ?_)))
 refine R.rng underlying123 rfl rfl .hd ?_
 intro b38
 refine TL.nilc ?_
 refine nN (T.block (T.loop (ι := Array Nat × List Int × Value × Chunk) (fun ⟨sn, vk, vf, cf⟩ H' L' ds' => ds' = [] ∧ L' = [cf, [(b38, .mapIter (some a0) ck sn ck)], [(a0, .map es ck)]] ∧ Seen es (isV xs) sn vk ∧ OwnS (intE .i64) 3 H' vf (vk.filter (fun k => decide ((dg xs [] k : Int) = 0))) cf) (fun ⟨sn, vk, vf, cf⟩ => [(3, .map (some a0)), (4, a5), (7, vf), (38, .pointer (some ⟨b38, 0, none⟩))]) (fun ⟨sn, vk, vf, cf⟩ => m.length - vk.length) ((#[], [], .slice none 0 0, [])) ?_ ?_ ?_))
 exact ⟨rfl, rfl, Seen.nil _ _, OwnS.nil⟩
 exact ⟨rfl, rfl, rfl, rfl, trivial⟩
 intro ⟨sn, vk, vf, cf⟩ σ1 H_1 L_1 ds_1 s_1 hI_1
 obtain ⟨rfl, rfl, hse, ho⟩ := hI_1
 have hvl := hse.len hC
 have hml0 := cnt_len hC
 have hfl0 := List.length_filter_le (fun k => decide ((dg xs [] k : Int) = 0)) vk
 refine sR (R.nxt rfl rfl (.tl .hd) (.tl .hd) hi.2 ?_)
 intro v39 sn2 h39
 refine TL.permL (L' := [cf, [(b38, .mapIter (some a0) ck sn2 ck)], [(a0, .map es ck)]]) perm4 ?_
 rcases h39 with ⟨hv39, hs39, hall⟩ | ⟨e, he, hne, hv39, hs39⟩ <;> subst hv39 <;> subst hs39
 refine R.ext rfl rfl rfl ?_
 refine nN (T.seq (T.condN rfl ?_))
 refine T.exit (Post.thnE (Post.thnE (Post.blkX ?_)))
 refine id (Post.thnN (T.seq ?_))
 obtain ⟨n0, hn0⟩ : ∃ n, n = m.length := ⟨_, rfl⟩
 have hKI0 := free_start hse.nd (hse.over hi.1 hC hall)
 refine T.region (mA ?_)
 refine R.lenM underlying123 rfl rfl (.tl (.tl .hd)) ?_
 refine TL.set 51 (.int .i64 m.length) (by rw [← map_size hi.1]; rfl) ?_
 refine TL.del (.tl .hd) ?_
 refine aA ?_
 refine nN (T.seq (T.block (T.loop (ι := List Int × List Int × Value × Chunk × MapL × Array MapEntry × Nat) (fun ⟨RV, Fr, vf, cf, m, es, ck⟩ H' L' ds' => ds' = [] ∧ L' = [cf, [(a0, .map es ck)]] ∧ KI xs RV Fr ∧ MapK .i64 es ck m ∧ CntIs m (fun w => (dg xs RV w : Int)) (isV xs) ∧ OwnS (intE .i64) 3 H' vf Fr cf ∧ m.length = n0) (fun ⟨RV, Fr, vf, cf, m, es, ck⟩ => [(3, .map (some a0)), (4, a5), (7, vf), (10, .int .i64 ((n0 : Int) - (RV.length : Int)))]) (fun ⟨RV, Fr, vf, cf, m, es, ck⟩ => n0 - RV.length) (([], vk.filter (fun k => decide ((dg xs [] k : Int) = 0)), vf, cf, m, es, ck)) ?_ ?_ ?_)))
 exact ⟨rfl, rfl, hKI0, hi, hC, ho, hn0.symm⟩
 exact ⟨rfl, rfl, rfl, congrArg (Value.int .i64) (by rw [hn0]; simp), trivial⟩
 intro ⟨RV, Fr, vf, cf, m, es, ck⟩ σ2 H_2 L_2 ds_2 s_2 hI_2
 obtain ⟨rfl, rfl, hKI, hi, hC, ho, hml⟩ := hI_2
 have hkl := hKI.len hC
 obtain ⟨Af, pf, hvf, hf1, hf2⟩ := ho.shape
 subst hvf
 refine T.seq (sR (mA ?_))
 refine R.len underlying25 rfl rfl ?_
 refine R.gtr rfl rfl rfl ?_
 refine nN (T.condD rfl (fun c54 => ?_) (fun c54 => ?_))
 obtain ⟨F, v, rfl⟩ := last_split (l := Fr) (fun e => by rw [e] at c54; exact absurd c54 (by decide))
 have hfp : (F ++ [v]).length = F.length + 1 := by simp
 refine T.skip (Post.thnN (T.block ?_))
 refine sR (mA ?_)
 refine mA ?_
 refine R.len underlying25 rfl rfl ?_
 refine R.subI rfl rfl rfl oA ?_
 obtain ⟨bo, ko, cso, lo, hce, hve, hix, hR, hcs⟩ := ho.elem (show (F ++ [v])[(((F ++ [v]).length : Int) - 1).toNat]? = some v by rw [show (((F ++ [v]).length : Int) - 1).toNat = F.length by simp]; simp)
 obtain rfl : lo = [.int .i64 v] := hR
 subst hce
 refine R.ixp underlying25 sizeOf3 rfl rfl rfl (by simp) hix ?_
 refine R.ld isAgg3 rfl rfl .hd (hcs 0 _ rfl) ?_
 refine aA ?_
 refine nN (sR (mA ?_))
 refine mA ?_
 refine R.len underlying25 rfl rfl ?_
 refine R.subI rfl rfl rfl oA ?_
 refine R.sH underlying25 sizeOf3 rfl rfl rfl (by simp) (by simp; omega) ?_
 have hfl : (((F ++ [v]).length : Int) - 1).toNat = F.length := by simp
 refine TL.set 65 (.slice Af F.length pf) (by rw [← hfl]; exact slc_take0 (n := (F ++ [v]).length)) ?_
 have w65 := own_take0 ho (i := F.length) (by simp)
 rw [List.take_left] at w65
 refine aA ?_
 refine nN (sR (mA ?_))
 refine R.subI rfl rfl rfl oA ?_
 refine aA ?_
 refine nN (sR (mA ?_))
 refine mA ?_
 refine R.callp rfl rfl rfl (hst _ (s_0.trans (s_1.trans s_2)) v) ?_
 intro v70 H70 s70 q70
 have q70 : RdS (intE .i64) H70 v70 (fromL xs v) := q70
 obtain ⟨A70, k70, rfl, m70, n70, g70⟩ := q70.shape
 refine R.len underlying25 rfl rfl ?_
 refine mA ?_
 refine nN (T.block (T.loop (ι := Nat × Value × Chunk × MapL × Array MapEntry × Nat) (fun ⟨i, vf, cf, m, es, ck⟩ H' L' ds' => i ≤ (fromL xs v).length ∧ ds' = [] ∧ L' = [cf, [(a0, .map es ck)]] ∧ MapK .i64 es ck m ∧ CntIs m (cI xs RV v i) (isV xs) ∧ OwnS (intE .i64) 3 H' vf (fI xs RV F v i) cf ∧ m.length = n0) (fun ⟨i, vf, cf, m, es, ck⟩ => [(3, .map (some a0)), (4, a5), (7, vf), (10, .int .i64 ((n0 : Int) - (RV.length : Int) - 1)), (70, .slice A70 (fromL xs v).length k70), (71, .int .i64 (fromL xs v).length), (72, .int .i64 i)]) (fun ⟨i, vf, cf, m, es, ck⟩ => (fromL xs v).length - i) ((0, .slice Af F.length pf, [(bo, .cells cso 3)], m, es, ck)) ?_ ?_ ?_))
 exact ⟨Nat.zero_le _, rfl, rfl, hi, hC.congr (fun k => (cI_zero xs RV v k).symm) (fun k => Iff.rfl), by rw [fI_zero]; exact w65.mono s70, hml⟩
 exact ⟨rfl, rfl, rfl, rfl, rfl, rfl, rfl, trivial⟩
 intro ⟨i, vf, cf, m, es, ck⟩ σ3 H_3 L_3 ds_3 s_3 hI_3
 obtain ⟨hiw, rfl, rfl, hi, hC, ho, hml⟩ := hI_3
 have hfll := fI_len xs RV F v i
 refine sR (R.lss rfl rfl rfl ?_)
 refine nN (T.seq (T.condD rfl (fun c73 => ?_) (fun c73 => ?_)))
 have hlt : i < (fromL xs v).length := by omega
 obtain ⟨w, hw⟩ := getk hlt
 have hwV := from_isV (List.mem_of_getElem? hw)
 have hcI := cI_bnd xs RV v i w
 refine T.skip (Post.thnN (T.seq ?_))
 refine T.block (sR ?_)
 obtain ⟨b74, o74, i74, e74⟩ := (g70.mono s_3).elem (hw)
 refine R.ixp underlying25 sizeOf3 rfl rfl rfl oA i74 ?_
 refine R.ldC isAgg3 rfl rfl (e74).int ?_
 refine aA ?_
 refine nN (sR (mA ?_))
 refine mA ?_
 refine R.lku underlying123 underlying3 zeroValue3 rfl rfl rfl (.tl .hd) hi.1 ?_
 refine TL.set 78 (.int .i64 (cI xs RV v i w)) (hC.2.2 w) ?_
 refine R.subI rfl rfl rfl oA ?_
 refine R.mupK underlying123 underlying3 rfl rfl rfl rfl (.tl .hd) hi ?_
 intro a3 a4 i79
 refine TL.permL (L' := [cf, [(a0, .map a3 a4)]]) permS ?_
 have hC2 : CntIs _ (cI xs RV v (i + 1)) (isV xs) := (hC.put w (cI xs RV v i w - 1)).congr (congrFun (cI_step hw)) (fun k => ⟨fun h => h.elim (fun e => e ▸ hwV) id, .inr⟩)
 have a6 := (mput_len m w (.int .i64 (cI xs RV v i w - 1)) ((hC.2.1 w).2 hwV)).trans hml
 refine nN (sR (mA ?_))
 refine mA ?_
 refine R.lku underlying123 underlying3 zeroValue3 rfl rfl rfl (.tl .hd) i79.1 ?_
 refine TL.set 82 (.int .i64 (cI xs RV v (i + 1) w)) (hC2.2.2 w) ?_
 refine R.eql rfl rfl rfl ?_
 refine nN (T.condD rfl (fun c83 => ?_) (fun c83 => ?_))
 refine T.region (mA ?_)
 refine mA ?_
 refine R.bs rfl (k_4 underlying25 sizeOf3 zeroValue3 rfl rfl) ?_
 intro b86
 refine R.app (ys := [w]) k_aa rfl rfl rfl ho (.tl .hd) (Src.lit (vs := [.int .i64 w]) .hd) ⟨[.int .i64 w], [], rfl, rfl, rfl⟩ (by simp; omega) (by simp; omega) ?_
 intro v87 c87 w87
 refine TL.del (.tl .hd) ?_
 refine aA ?_
 refine TL.nil (Post.blkN ?_)
 refine id (Post.thnN (T.region ?_))
 refine R.addI rfl rfl rfl oA ?_
 refine mA ?_
 refine nN ?_
 exact ⟨(i + 1, v87, c87, _, a3, a4), s_3, ⟨by show i + 1 ≤ _; omega, rfl, rfl, i79, hC2, by rw [fI_yes hw c83]; exact w87, a6⟩, by show (fromL xs v).length - (i + 1) < (fromL xs v).length - i; omega, ⟨rfl, rfl, rfl, rfl, rfl, rfl, rfl, trivial⟩⟩
 refine T.skip (Post.blkN ?_)
 refine id (Post.thnN (T.region ?_))
 refine R.addI rfl rfl rfl oA ?_
 refine mA ?_
 refine nN ?_
 exact ⟨(i + 1, vf, cf, _, a3, a4), s_3, ⟨by show i + 1 ≤ _; omega, rfl, rfl, i79, hC2, by rw [fI_no hw c83]; exact ho, a6⟩, by show (fromL xs v).length - (i + 1) < (fromL xs v).length - i; omega, ⟨rfl, rfl, rfl, rfl, rfl, rfl, rfl, trivial⟩⟩
 refine T.exit (Post.thnE (Post.thnE (Post.blkX ?_)))
 refine id (Post.blkN ?_)
 refine id (Post.thnN ?_)
 have hix : i = (fromL xs v).length := by omega
 have hgo := hKI.go hc
 have hvR : v ∉ RV := fun hm => (List.nodup_append.1 hKI.nd).2.2 v hm v (by simp) rfl
 exact ⟨(RV ++ [v], fI xs RV F v i, vf, cf, m, es, ck), s_2.trans (s70.trans s_3), ⟨rfl, rfl, by rw [hix]; exact hgo, hi, hC.congr (fun k => by rw [hix]; exact cI_last hc hvR k) (fun k => Iff.rfl), ho, hml⟩, by show n0 - (RV ++ [v]).length < n0 - RV.length; simp at hkl ⊢; omega, ⟨rfl, rfl, rfl, congrArg (Value.int .i64) (by simp; omega), trivial⟩⟩
 have hF0 : Fr = [] := List.length_eq_zero_iff.1 oA
 subst hF0
 have hend := round_end hc hKI hC
 rw [hml] at hend
 refine T.exit (Post.thnE (Post.thnE (Post.blkX ?_)))
 refine id (Post.thnN (sR ?_))
 refine mA ?_
 refine R.gtr rfl rfl rfl ?_
 refine aA ?_
 refine nN (T.ret ?_)
 exact fin1 rfl rfl ⟨rfl, congrArg Value.bool hend⟩
 refine R.ext rfl rfl rfl ?_
 refine nN (T.seq (T.condY rfl ?_))
 refine T.skip (Post.thnN (T.block ?_))
 refine sR ?_
 obtain ⟨kk, hk1, hk2, hK⟩ := cnt_entry hi.1 hC he
 obtain ⟨a1, hkv⟩ := hse.step hi hC he hne hk1 hK
 refine R.ent rfl rfl (.tl .hd) (.tl (.tl .hd)) hi.2 he ?_
 refine R.ext rfl rfl rfl ?_
 refine TL.set 42 (.int .i64 kk) hk1 ?_
 refine R.ext rfl rfl rfl ?_
 refine TL.set 43 (.int .i64 (dg xs [] kk : Int)) hk2 ?_
 refine aA ?_
 refine aA ?_
 refine nN (sR (mA ?_))
 refine R.eql rfl rfl rfl ?_
 refine nN (T.condD rfl (fun c45 => ?_) (fun c45 => ?_))
 refine T.region (mA ?_)
 refine mA ?_
 refine R.bs rfl (k_4 underlying25 sizeOf3 zeroValue3 rfl rfl) ?_
 intro b48
 refine R.app (ys := [kk]) k_aa rfl rfl rfl ho (.tl .hd) (Src.lit (vs := [.int .i64 kk]) .hd) ⟨[.int .i64 kk], [], rfl, rfl, rfl⟩ (by simp only [List.length_cons, List.length_nil]; omega) (by simp only [List.length_cons, List.length_nil]; omega) ?_
 intro v49 c49 w49
 refine TL.del (.tl .hd) ?_
 refine aA ?_
 refine TL.nil (Post.blkN ?_)
 refine id (Post.thnN ?_)
 have hsl := a1.len hC
 simp at hsl
 exact ⟨(_, vk ++ [kk], v49, c49), s_1, ⟨rfl, rfl, a1, by rw [filt1_yes (decide_eq_true c45)]; exact w49⟩, by show m.length - (vk ++ [kk]).length < m.length - vk.length; simp; omega, ⟨rfl, rfl, rfl, rfl, trivial⟩⟩
 refine T.skip (Post.blkN ?_)
 refine id (Post.thnN ?_)
 have hsl := a1.len hC
 simp at hsl
 exact ⟨(_, vk ++ [kk], vf, cf), s_1, ⟨rfl, rfl, a1, by rw [filt1_no (decide_eq_false c45)]; exact ho⟩, by show m.length - (vk ++ [kk]).length < m.length - vk.length; simp; omega, ⟨rfl, rfl, rfl, rfl, trivial⟩⟩
end Go.SX.CH
namespace Go.SX
open Go Go.Proofs Go.Proofs.Tryz
def Y229 : Heap → List Value → (Int × (Int × Bool)) → Prop := fun H vs y => vs = [.int .i64 y.1, .agg #[.int .i64 y.2.1, .bool y.2.2]]
def k_32  : List (Int × Bool) → Nat → Unit → List (Int × (Int × Bool))
  | [], kl1, sl1 => []
  | yl1 :: ysl1, kl1, sl1 => if yl1.2 = true then (((((kl1 : Int) + 1), yl1)) :: (k_32 ysl1 (kl1 + 1) ())) else (k_32 ysl1 (kl1 + 1) ())
def k_65 (q0 : Int × (List (Int × Bool)) × (List Int)) : List (Int × (Int × Bool)) :=
  (k_32 q0.2.1 0 ()) ++ []
theorem alloc_living_1_c (H : Heap) (b1 : Nat) (q0 : Int × (List (Int × Bool)) × (List Int)) (b2 : Value) (a5 : RdS slotE H b2 q0.2.1) (b3 : Value) (b5 : RdS (intE .i64) H b3 q0.2.2) (hb0 : H b1 = some (.cells #[.int .i64 q0.1, b2, b3] 27)) : Iter Tryz.prog (.func (.func 219) #[] ([.pointer (some ⟨b1, 0, none⟩)] : List Value).toArray) Y229 H (k_65 q0) := by
 intro l J Jx H1 Lc s1 hJ hJx hY h0
 obtain ⟨c2, c3, rfl, hcq0_1, hdq0_1, a5⟩ := a5.shape
 obtain ⟨Aq0_2, cq0_2, rfl, hcq0_2, hdq0_2, b5⟩ := b5.shape
 refine Fc.of_body (N := 24) func219 rfl kA rfl rfl ?_
 intro w0
 refine sR (fA underlying27 rfl sizeOf24 ?_)
 refine R.ldH isAgg24 rfl rfl (s1 _ _ hb0) rfl ?_
 refine R.len underlying24 rfl rfl ?_
 refine mA ?_
 refine nN (T.block (T.loop (ι := Nat × (List (Int × (Int × Bool))) × Own) (fun ⟨a1, a0, a4⟩ H' L' ds' => a1 ≤ q0.2.1.length ∧ Has L' (a4) ∧ J a0 H' a4 ∧ a0 ++ k_32 (q0.2.1.drop a1) a1 () = k_32 q0.2.1 0 ()) (fun ⟨a1, a0, a4⟩ => [(8, .int .i64 (a1 : Int)), (0, yieldv l), (6, .slice c2 q0.2.1.length c3), (7, .int .i64 (q0.2.1.length : Int))]) (fun ⟨a1, a0, a4⟩ => q0.2.1.length - a1) (0, [], Lc) ?_ ?_ ?_))
 exact ⟨oA, (Has.refl _), (by simpa using h0), (by rfl)⟩
 exact ⟨rfl, rfl, rfl, rfl, trivial⟩
 intro ⟨a1, a0, a4⟩ σ_l1 H_l1 L_l1 ds_l1 a6 a7
 obtain ⟨hkl1, a7⟩ := a7
 obtain ⟨hLl1, b0, a8⟩ := a7
 refine T.has hLl1 ?_
 refine sR (R.lss rfl rfl rfl ?_)
 refine nN (T.seq (T.condD rfl (fun c9 => ?_) (fun c9 => ?_)))
 have hltl1 : a1 < q0.2.1.length := by omega
 obtain ⟨a2, a9⟩ := getk (xs := q0.2.1) (k := a1) oA
 refine T.skip (Post.thnN (T.seq ?_))
 refine T.block (sR (mA ?_))
 obtain ⟨b11, o11, i11, k11⟩ := RdS.elem (a5.mono (s1.trans a6)) a9
 obtain ⟨l11, g11, k11⟩ := k11
 obtain rfl : l11 = [.int .i64 (a2.1), .bool (a2.2)] := g11
 refine R.ixp underlying24 sizeOf110 rfl rfl rfl oA i11 ?_
 refine R.ldK (l := [.int .i64 (a2.1), .bool (a2.2)]) isAgg110 sizeOf110 rfl rfl k11 rfl ?_
 refine R.alloc zeroValue110 rfl ?_
 intro b4
 refine aA ?_
 refine stY (l := [.int .i64 (a2.1), .bool (a2.2)]) (new := [.int .i64 (a2.1), .bool (a2.2)]) .hd sizeOf110 rfl rfl ?_
 refine TL.shut .hd ?_
 intro b6 a3 c4
 have b7 : b6 b4 = some (.cells #[.int .i64 (a2.1), .bool (a2.2)] 110) := shut1 c4
 refine nN (sR (fA underlying110 rfl sizeOf4 ?_))
 refine R.ldH isAgg4 rfl rfl b7 rfl ?_
 refine mA ?_
 refine TL.gsplit 15 rfl (fun b8 => ?_) (fun b8 => ?_)
 refine mA ?_
 refine mA ?_
 refine R.addI rfl rfl rfl oA ?_
 refine R.ldXH (cs := [.int .i64 (a2.1), .bool (a2.2)]) (l := [.int .i64 (a2.1), .bool (a2.2)]) isAgg110 sizeOf110 rfl rfl b7 rfl rfl ?_
 have b9 : (a0 ++ [(((a1 : Int) + 1), a2)]) <+: k_32 q0.2.1 0 () := by rw [← a8, k_8 a9, k_32]; rw [if_t b8]; exact (pf_app pf_one)
 have c0 : (a0 ++ [(((a1 : Int) + 1), a2)]) <+: k_65 q0 := by rw [k_65]; exact (pf_l b9)
 have c1 : (a0 ++ [(((a1 : Int) + 1), a2)]) <+: k_65 q0 := by simpa [List.append_assoc] using c0
 refine TL.callT 0 rfl rfl rfl (hY a0 ((((a1 : Int) + 1), a2)) _ b6 a4 (a6.trans a3) c1 (hJ _ _ _ _ a3 b0) rfl) ?_
 intro v20 H20 L20 s20 q20
 rcases q20 with ⟨rfl, j20⟩ | ⟨rfl, j20⟩
 refine R.not rfl rfl ?_
 refine R.pkTE rfl rfl cA ?_
 refine nN (T.condN rfl ?_)
 refine T.skip (Post.blkN ?_)
 refine id (Post.thnN (T.region ?_))
 refine R.addI rfl rfl rfl oA ?_
 refine mA ?_
 refine nN ?_
 exact ⟨(a1 + 1, (a0 ++ [(((a1 : Int) + 1), a2)]), L20), (a6.trans (a3.trans s20)), ⟨oA, (Has.refl _), (by simpa [List.append_assoc] using j20), (by (rw [← a8, k_8 a9, k_32]; rw [if_t b8]) <;> simp)⟩, by show q0.2.1.length - (a1 + 1) < q0.2.1.length - a1; omega, rfl, rfl, rfl, rfl, trivial⟩
 refine R.not rfl rfl ?_
 refine R.pkTE rfl rfl cA ?_
 refine nN (T.condY rfl ?_)
 refine T.ret (Post.blkR (Post.thnR (Post.thnR (Post.blkR ?_))))
 exact fin0L L20 rfl (List.Sublist.refl _) (.inr ⟨a0, (((a1 : Int) + 1), a2), c1, j20⟩)
 refine oF ?_
 refine oF ?_
 refine oF ?_
 refine oF ?_
 refine oF ?_
 refine oF ?_
 refine R.pkFE rfl rfl cA ?_
 refine nN (T.condN rfl ?_)
 refine T.skip (Post.blkN ?_)
 refine id (Post.thnN (T.region ?_))
 refine R.addI rfl rfl rfl oA ?_
 refine mA ?_
 refine nN ?_
 exact ⟨(a1 + 1, a0, a4), (a6.trans a3), ⟨oA, (Has.refl _), (by simpa [List.append_assoc] using (hJ _ _ _ _ a3 b0)), (by (rw [← a8, k_8 a9, k_32]; rw [if_f b8]) <;> simp)⟩, by show q0.2.1.length - (a1 + 1) < q0.2.1.length - a1; omega, rfl, rfl, rfl, rfl, trivial⟩
 refine T.exit (Post.thnE (Post.thnE (Post.blkX ?_)))
 have hEl1 : k_32 q0.2.1 0 () = a0 := (by rw [← a8, show a1 = q0.2.1.length by omega, List.drop_length, k_32] <;> simp)
 refine id ?_
 have hM : k_65 q0 = a0 := by rw [k_65, hEl1] <;> simp
 exact fin0N a4 rfl (List.Sublist.refl _) (.inl (by rw [hM]; exact b0))
def k_7b (a0 : Int × (List (Int × Bool)) × (List Int)) : (List (Int × (Int × Bool))) :=
  (k_65 a0)
theorem alloc_living_c (H : Heap) (a0 : Int × (List (Int × Bool)) × (List Int)) (a3 : Value) (a1 : RdS slotE H a3 a0.2.1) (a4 : Value) (a2 : RdS (intE .i64) H a4 a0.2.2) : Fp Tryz.prog (fnv 197) [.agg #[.int .i64 a0.1, a3, a4]] H (fun v' H' => ∃ a6, v' = .func (.func 219) #[] a6 ∧ Iter Tryz.prog (.func (.func 219) #[] a6) Y229 H' (k_7b a0)) := by
 refine Fc.of_body (N := 4) func197 rfl kA rfl rfl ?_
 intro w0
 obtain ⟨a7, a8, rfl, hca0_1, hda0_1, a1⟩ := a1.shape
 obtain ⟨a9, b0, rfl, hca0_2, hda0_2, a2⟩ := a2.shape
 refine sR (R.box rfl cA ?_)
 intro b1
 refine aA ?_
 refine TL.shut .hd ?_
 intro b2 a5 b3
 have b4 : b2 b1 = some (.cells #[.int .i64 (a0.1), .slice a7 a0.2.1.length a8, .slice a9 a0.2.2.length b0] 27) := shut1 b3
 refine nN (sR (R.mkf (cs := [_]) rfl rfl ?_))
 refine aA ?_
 refine nN (T.has Has.nil ?_)
 refine T.ret ?_
 have hM : k_7b a0 = (k_65 a0) := by rw [k_7b]
 exact fin1L (v := .func (.func 219) #[] ([.pointer (some ⟨b1, 0, none⟩)] : List Value).toArray) [] rfl rfl (List.Sublist.refl _) ⟨rfl, ([.pointer (some ⟨b1, 0, none⟩)] : List Value).toArray, by first | rw [hM] | rfl, by rw [hM]; exact (alloc_living_1_c _ b1 a0 _ (a1.mono a5) _ (a2.mono a5) b4)⟩
theorem living_len1 : ∀ (l : List (Int × Bool)) (k : Nat), (k_32 l k ()).length ≤ l.length
  | [], k => by rw [k_32]; exact Nat.le_refl _
  | y :: ys, k => by
    have := living_len1 ys (k + 1)
    rw [k_32]
    split
    · simpa using this
    · simp only [List.length_cons]; omega
theorem living_len (a : Int × (List (Int × Bool)) × (List Int)) (r : List (Int × Int × Bool)) (h : r = k_7b a) : r.length ≤ a.2.1.length := by
  subst h
  unfold k_7b k_65
  rw [List.append_nil]; exact living_len1 _ _
def k_8b (a0 : Int) : (Int × (List (Int × Bool)) × (List Int)) × Int :=
  LR.seq (if a0 < 1 then true else ((decide ((1048576 : Int) < a0))) : Bool) (fun sc1 => if sc1 = true then ((((0, [], []) : Int × (List (Int × Bool)) × (List Int)), 2)) else ((((a0, [((0, true) : Int × Bool), ((0, true) : Int × Bool)], []) : Int × (List (Int × Bool)) × (List Int)), 0)))
theorem alloc_New_c (H : Heap) {tG1 : TypeId} (hG1 : gA H 1 tG1) (a0 : Int) : Fc Tryz.prog (fnv 83) [.int .i64 a0] H [] (fun v' H' L' => ∃ a4 a5 a6 a7, v' = .tuple #[.agg #[.int .i64 (k_8b a0).1.1, a4, a5], .int .i64 (k_8b a0).2] ∧ L' = [a6, a7] ∧ OwnS slotE 110 H' a4 (k_8b a0).1.2.1 a6 ∧ OwnS (intE .i64) 3 H' a5 (k_8b a0).1.2.2 a7) := by
 refine Fc.of_body (N := 16) func83 rfl kA rfl rfl ?_
 intro w0
 refine sR (R.alloc zeroValue27 rfl ?_)
 intro b2
 refine aA ?_
 refine nN (T.seq (T.seq (T.cutK (ι := Bool) (fun a2 H' L' ds' => Has L' [[(b2, .cells #[.int .i64 0, .slice none 0 0, .slice none 0 0] 27)]] ∧ (if a0 < 1 then true else ((decide ((1048576 : Int) < a0))) : Bool) = a2) (fun a2 => [(0, .int .i64 a0), (2, .pointer (some ⟨b2, 0, none⟩)), (9, .bool (a2))]) ?_ ?_)))
 refine T.region (mA ?_)
 refine R.lss rfl rfl rfl ?_
 refine mA ?_
 refine TL.gsplitD 6 rfl (fun g6 => ?_) (fun g6 => ?_)
 refine oF ?_
 refine oF ?_
 refine R.pkTE rfl rfl cA ?_
 refine nN ?_
 exact ⟨true, HLe.refl _, ⟨(Has.cons .hd Has.nil), (by rw [if_pos g6])⟩, rfl, rfl, rfl, trivial⟩
 refine mA ?_
 refine R.gtr rfl rfl rfl ?_
 refine R.pkFE rfl rfl cA ?_
 refine nN ?_
 exact ⟨(decide ((1048576 : Int) < a0)), HLe.refl _, ⟨(Has.cons .hd Has.nil), (by rw [if_neg g6])⟩, rfl, rfl, rfl, trivial⟩
 intro a2 σ_c1 H_c1 L_c1 ds_c1 a8 a9
 obtain ⟨hLc1, a3⟩ := a9
 refine T.has hLc1 ?_
 refine T.cond rfl (fun c9 => ?_) (fun c9 => ?_)
 refine T.set 9 (.bool true) (congrArg Value.bool c9) ?_
 have hZ9 := a3.trans c9
 try simp only [or_f, or_t, and_f, and_t, decide_eq_true_eq, decide_eq_false_iff_not, Bool.not_eq_true'] at hZ9
 refine sR (R.bld (cs := [.int .i64 0, .slice none 0 0, .slice none 0 0]) rfl (fun _ => by kernel_rfl) ?_)
 refine stY (l := [.int .i64 0, .slice none 0 0, .slice none 0 0]) (new := [.int .i64 0, .slice none 0 0, .slice none 0 0]) .hd sizeOf27 rfl rfl ?_
 refine aA ?_
 refine nN (T.has (Has.none (Has.none (Has.cons .hd Has.nil))) ?_)
 refine T.ret (Post.thnR ?_)
 have hM : k_8b a0 = (((0, [], []) : Int × (List (Int × Bool)) × (List Int)), 2) := by rw [k_8b, a3, LR.seq_go, if_t c9]
 exact finR2 (v := .agg #[.int .i64 0, .slice none 0 0, .slice none 0 0]) (v' := .int .i64 2) [[], []] rfl (.cellA (cs := [.int .i64 0, .slice none 0 0, .slice none 0 0]) (l := [.int .i64 0, .slice none 0 0, .slice none 0 0]) isAgg27 sizeOf27 rfl (.tl (.tl .hd)) rfl rfl) (.tmp rfl) (List.sublist_append_left ([[], []] : Own) _) ⟨.slice none 0 0, .slice none 0 0, [], [], by first | rw [hM] | rfl, rfl, by rw [hM]; exact OwnS.nil, by rw [hM]; exact OwnS.nil⟩
 refine T.set 9 (.bool false) (congrArg Value.bool c9) ?_
 have hZ9 := a3.trans c9
 try simp only [or_f, or_t, and_f, and_t, decide_eq_true_eq, decide_eq_false_iff_not, Bool.not_eq_true'] at hZ9
 refine T.skip (Post.thnN (sR ?_))
 refine mA ?_
 refine R.ldXH (cs := [.int .i64 0, .bool true]) (l := [.int .i64 0, .bool true]) isAgg110 sizeOf110 rfl rfl (a8 _ _ hG1) rfl rfl ?_
 refine R.ldXH (cs := [.int .i64 0, .bool true]) (l := [.int .i64 0, .bool true]) isAgg110 sizeOf110 rfl rfl (a8 _ _ hG1) rfl rfl ?_
 refine R.bs (e := 110) (cs := [.int .i64 0, .bool true, .int .i64 0, .bool true]) rfl (fun _ => by kernel_rfl) ?_
 intro a1
 have w14 : OwnS slotE 110 H_c1 (.slice (some ⟨a1, 0, none⟩) 2 2) [((0, true) : Int × Bool), ((0, true) : Int × Bool)] [(a1, .cells #[.int .i64 0, .bool true, .int .i64 0, .bool true] 110)] := OwnS.lit (xs := [((0, true) : Int × Bool), ((0, true) : Int × Bool)]) (k_5 (a := [.int .i64 0, .bool true]) rfl (k_5 (a := [.int .i64 0, .bool true]) rfl k_7)) (by show 2 ≤ maxLen; decide)
 refine R.bld (cs := [.int .i64 a0, .slice (some ⟨a1, 0, none⟩) 2 2, .slice none 0 0]) rfl (fun _ => by kernel_rfl) ?_
 refine stY (l := [.int .i64 a0, .slice (some ⟨a1, 0, none⟩) 2 2, .slice none 0 0]) (new := [.int .i64 a0, .slice (some ⟨a1, 0, none⟩) 2 2, .slice none 0 0]) (.tl .hd) sizeOf27 rfl rfl ?_
 refine aA ?_
 refine nN (T.has (Has.cons .hd (Has.none (Has.cons .hd Has.nil))) ?_)
 refine T.ret ?_
 have hM : k_8b a0 = (((a0, [((0, true) : Int × Bool), ((0, true) : Int × Bool)], []) : Int × (List (Int × Bool)) × (List Int)), 0) := by rw [k_8b, a3, LR.seq_go, if_f c9]
 exact finR2 (v := .agg #[.int .i64 a0, .slice (some ⟨a1, 0, none⟩) 2 2, .slice none 0 0]) (v' := .int .i64 0) [[(a1, .cells #[.int .i64 0, .bool true, .int .i64 0, .bool true] 110)], []] rfl (.cellA (cs := [.int .i64 a0, .slice (some ⟨a1, 0, none⟩) 2 2, .slice none 0 0]) (l := [.int .i64 a0, .slice (some ⟨a1, 0, none⟩) 2 2, .slice none 0 0]) isAgg27 sizeOf27 rfl (.tl (.tl .hd)) rfl rfl) (.tmp rfl) (List.sublist_append_left ([[(a1, .cells #[.int .i64 0, .bool true, .int .i64 0, .bool true] 110)], []] : Own) _) ⟨.slice (some ⟨a1, 0, none⟩) 2 2, .slice none 0 0, [(a1, .cells #[.int .i64 0, .bool true, .int .i64 0, .bool true] 110)], [], by first | rw [hM] | rfl, rfl, by rw [hM]; exact w14, by rw [hM]; exact OwnS.nil⟩
def k_88  : List (Int × (Int × Bool)) → Int → Int
  | [], sr1 => sr1
  | yr1 :: ysr1, sr1 => k_88 ysr1 ((IntKind.i64.wrap (sr1 + 1)))
def k_83 (a0 : Int × (List (Int × Bool)) × (List Int)) : Int :=
  LR.seq (k_7b a0) (fun r5 => LR.seq (k_88 r5 (-2)) (fun or1 => or1))
theorem alloc_many_c (H : Heap) (a0 : Int × (List (Int × Bool)) × (List Int)) (b4 : Value) (a3 : RdS slotE H b4 a0.2.1) (b5 : Value) (a4 : RdS (intE .i64) H b5 a0.2.2) : Fv Tryz.prog (fnv 192) [.agg #[.int .i64 a0.1, b4, b5]] H (.int .i64 (k_83 a0)) := by
 refine Fc.of_body (N := 11) func192 rfl kA rfl rfl ?_
 intro w0
 obtain ⟨a5, a6, rfl, hca0_1, hda0_1, a3⟩ := a3.shape
 obtain ⟨a7, a8, rfl, hca0_2, hda0_2, a4⟩ := a4.shape
 refine sR (R.box rfl cA ?_)
 intro b1
 refine aA ?_
 refine TL.shut .hd ?_
 intro b9 b6 c0
 have c1 : b9 b1 = some (.cells #[.int .i64 (a0.1), .slice a5 a0.2.1.length a6, .slice a7 a0.2.2.length a8] 27) := shut1 c0
 refine nN (sR (R.alloc zeroValue3 rfl ?_))
 intro b3
 refine stY (l := [.int .i64 (-2)]) (new := [.int .i64 (-2)]) .hd sizeOf3 rfl (cells1 rfl) ?_
 refine nN (T.seq (sR (R.ldXH (cs := [.int .i64 (a0.1), .slice a5 a0.2.1.length a6, .slice a7 a0.2.2.length a8]) (l := [.int .i64 (a0.1), .slice a5 a0.2.1.length a6, .slice a7 a0.2.2.length a8]) isAgg27 sizeOf27 rfl rfl c1 rfl rfl ?_)))
 obtain ⟨r5, er5⟩ : ∃ r, r = (k_7b a0) := ⟨_, rfl⟩
 refine R.callp rfl rfl rfl (alloc_living_c _ a0 _ (a3.mono b6) _ (a4.mono b6)) ?_
 intro v5 H5 s5 q5
 rw [← er5] at q5
 obtain ⟨u5_0_0, rfl, b8⟩ := q5
 have tl5 := living_len _ _ er5
 refine nN (T.block (T.rangeFunc (xs := r5) rfl rfl (enters_of func219 kA rfl) b8 (fun _ _ _ h => by subst h; rfl) rfl (fun pre H' L' => ∃ (a1 : Int), Has L' [[(b3, .cells #[.int .i64 a1] 3)]] ∧ k_88 (r5.drop pre.length) a1 = k_88 r5 (-2)) (fun _ _ _ _ => False) (fun pre H H' L hle ⟨a1, hL, hQ⟩ => ⟨a1, hL, hQ⟩) (fun _ _ _ _ _ _ h => h) ?_ ?_ ?_ ?_))
 exact ⟨(-2), (Has.cons .hd Has.nil), (by rfl)⟩
 intro lr1 rr1 wr1 b7 yr1 vsr1 Hr1 Lr1 sr1 a9 a2 hYr1
 obtain ⟨a1, b0, b2⟩ := a2
 obtain rfl := hYr1
 refine T.has b0 ?_
 have hlpr1 : b7.length + 1 ≤ r5.length := by have h0 := a9.length_le; simpa using h0
 refine T.skip ?_
 refine onlyN.mk ?_
 refine T.block (T.region (R.ld isAgg3 rfl rfl .hd rfl ?_))
 refine R.add rfl rfl rfl ?_
 refine stY (l := [.int .i64 (IntKind.i64.wrap (a1 + 1))]) (new := [.int .i64 (IntKind.i64.wrap (a1 + 1))]) .hd sizeOf3 rfl (cells1 rfl) ?_
 refine TL.nil (Post.blkN ?_)
 refine id ?_
 exact ⟨(IntKind.i64.wrap (a1 + 1)), (Has.cons .hd Has.nil), (by rw [← b2, drop_pre a9, k_88])⟩
 intro Dr1 Hr1 Lr1 sr1 a2
 obtain ⟨a1, b0, b2⟩ := a2
 have hEr1 : k_88 r5 (-2) = a1 := by rw [← b2, List.drop_length, k_88]
 refine id (Post.blkN ?_)
 refine id (Post.thnN (T.has b0 ?_))
 refine sR (R.ld isAgg3 rfl rfl .hd rfl ?_)
 refine aA ?_
 refine nN (T.has Has.nil ?_)
 refine T.ret ?_
 have hM : k_83 a0 = a1 := by subst er5; rw [k_83, LR.seq_go, hEr1, LR.seq_go]
 exact fin1L (v := .int .i64 a1) [] rfl rfl (List.Sublist.refl _) ⟨rfl, by first | rw [hM] | rfl⟩
 intro Dr1 cr1 b7 yr1 Hr1 Lr1 sr1 a9 a2
 exact a2.elim
def k_4c (a1 : Int → (Int × Bool) → Bool) : List (Int × Bool) → Nat → Unit → LR (Bool) (Unit)
  | [], kl1, sl1 => .go ()
  | yl1 :: ysl1, kl1, sl1 => if (!(a1 ((kl1 : Int)) yl1)) = true then (.ret false) else (k_4c a1 ysl1 (kl1 + 1) ())
def k_58 (a0 : List (Int × Bool)) (a1 : Int → (Int × Bool) → Bool) : Bool :=
  LR.on (k_4c a1 a0 0 ()) (fun r => r) (fun ol1 => true)
theorem alloc_all_Slot_c (H : Heap) (va0 : Value) (a0 : List (Int × Bool)) (ha0 : RdS slotE H va0 a0) (a9 : Value) (a1 : Int → (Int × Bool) → Bool) (ha1 : ∀ H', HLe H H' → ∀ (z0 : Int) (z1 : Int × Bool), Fv Tryz.prog a9 [.int .i64 z0, .agg #[.int .i64 z1.1, .bool z1.2]] H' (.bool (a1 z0 z1))) (na1 : a9.oneCell' = true) : Fv Tryz.prog (fnv 193) [va0, a9] H (.bool (k_58 a0 a1)) := by
 refine Fc.of_body (N := 20) func193 rfl kA rfl rfl ?_
 intro w0
 obtain ⟨Aa0, ca0, rfl, hca0, hda0, ha0⟩ := ha0.shape
 refine sR (aA ?_)
 refine nN (T.seq (sR (mA ?_)))
 refine R.len underlying24 rfl rfl ?_
 refine mA ?_
 refine nN (T.block (T.loop (ι := Nat) (fun a2 H' L' ds' => a2 ≤ a0.length ∧ Has L' [] ∧ k_4c a1 (a0.drop a2) a2 () = k_4c a1 a0 0 ()) (fun a2 => [(9, .int .i64 (a2 : Int)), (1, a9), (7, .slice Aa0 a0.length ca0), (8, .int .i64 (a0.length : Int))]) (fun a2 => a0.length - a2) 0 ?_ ?_ ?_))
 exact ⟨oA, Has.nil, (by rfl)⟩
 exact ⟨rfl, rfl, rfl, rfl, trivial⟩
 intro a2 σ_l1 H_l1 L_l1 ds_l1 a6 a4
 obtain ⟨hkl1, a4⟩ := a4
 obtain ⟨hLl1, a7⟩ := a4
 refine T.has hLl1 ?_
 refine sR (R.lss rfl rfl rfl ?_)
 refine nN (T.seq (T.condD rfl (fun c10 => ?_) (fun c10 => ?_)))
 have hltl1 : a2 < a0.length := by omega
 obtain ⟨a3, a8⟩ := getk (xs := a0) (k := a2) oA
 refine T.skip (Post.thnN (T.seq ?_))
 refine T.block (sR (mA ?_))
 obtain ⟨b12, o12, i12, k12⟩ := RdS.elem (ha0.mono a6) a8
 obtain ⟨l12, g12, k12⟩ := k12
 obtain rfl : l12 = [.int .i64 (a3.1), .bool (a3.2)] := g12
 refine R.ixp underlying24 sizeOf110 rfl rfl rfl oA i12 ?_
 refine R.ldK (l := [.int .i64 (a3.1), .bool (a3.2)]) isAgg110 sizeOf110 rfl rfl k12 rfl ?_
 refine R.alloc zeroValue110 rfl ?_
 intro b6
 refine aA ?_
 refine stY (l := [.int .i64 (a3.1), .bool (a3.2)]) (new := [.int .i64 (a3.1), .bool (a3.2)]) .hd sizeOf110 rfl rfl ?_
 refine TL.shut .hd ?_
 intro b1 b0 b2
 have b3 : b1 b6 = some (.cells #[.int .i64 (a3.1), .bool (a3.2)] 110) := shut1 b2
 refine nN (sR (mA ?_))
 refine mA ?_
 refine R.ldXH (cs := [.int .i64 (a3.1), .bool (a3.2)]) (l := [.int .i64 (a3.1), .bool (a3.2)]) isAgg110 sizeOf110 rfl rfl b3 rfl rfl ?_
 refine R.callv rfl rfl rfl (ha1 _ (a6.trans b0) ((a2 : Int)) a3) ?_
 refine R.not rfl rfl ?_
 refine nN (T.cond rfl (fun a5 => ?_) (fun a5 => ?_))
 refine T.set 18 (.bool true) (congrArg Value.bool a5) ?_
 refine sR (aA ?_)
 refine nN (T.has Has.nil ?_)
 refine T.ret (Post.blkR (Post.thnR (Post.thnR (Post.blkR (Post.thnR ?_)))))
 have hXl1 : k_4c a1 a0 0 () = .ret false := by rw [← a7, k_8 a8, k_4c]; rw [if_t a5]
 have hM : k_58 a0 a1 = false := by rw [k_58, hXl1, LR.on_ret]
 exact fin1L (v := .bool false) [] rfl rfl (List.Sublist.refl _) ⟨rfl, by first | rw [hM] | rfl⟩
 refine T.set 18 (.bool false) (congrArg Value.bool a5) ?_
 refine T.skip (Post.blkN ?_)
 refine id (Post.thnN (T.region ?_))
 refine R.addI rfl rfl rfl oA ?_
 refine mA ?_
 refine nN ?_
 exact ⟨a2 + 1, (a6.trans b0), ⟨oA, Has.nil, (by rw [← a7, k_8 a8, k_4c]; rw [if_f a5])⟩, by show a0.length - (a2 + 1) < a0.length - a2; omega, rfl, rfl, rfl, rfl, trivial⟩
 refine T.exit (Post.thnE (Post.thnE (Post.blkX ?_)))
 have hEl1 : k_4c a1 a0 0 () = .go () := (a7.symm.trans (by rw [show a2 = a0.length by omega, List.drop_length, k_4c]))
 refine id (Post.thnN (sR ?_))
 refine aA ?_
 refine nN (T.has Has.nil ?_)
 refine T.ret ?_
 have hM : k_58 a0 a1 = true := by rw [k_58, hEl1, LR.on_go]
 exact fin1L (v := .bool true) [] rfl rfl (List.Sublist.refl _) ⟨rfl, by first | rw [hM] | rfl⟩
def k_72 (a0 : Int × Bool) : Bool :=
  if (!a0.2) = true then ((decide (a0.1 < 7))) else false
theorem alloc_usable_c (H : Heap) (a0 : Int × Bool) : Fv Tryz.prog (fnv 165) [.agg #[.int .i64 a0.1, .bool a0.2]] H (.bool (k_72 a0)) := by
 refine Fc.of_body (N := 11) func165 rfl kA rfl rfl ?_
 intro w0
 refine sR (R.box rfl cA ?_)
 intro b1
 refine aA ?_
 refine TL.shut .hd ?_
 intro a2 sb1_1 a3
 have a1 : a2 b1 = some (.cells #[.int .i64 (a0.1), .bool (a0.2)] 110) := shut1 a3
 refine nN (sR (fA underlying110 rfl sizeOf4 ?_))
 refine R.ldH isAgg4 rfl rfl a1 rfl ?_
 refine R.not rfl rfl ?_
 refine mA ?_
 refine TL.gsplit 6 rfl (fun g6 => ?_) (fun g6 => ?_)
 refine fA underlying110 rfl sizeOf3 ?_
 refine R.ldH isAgg3 rfl rfl a1 rfl ?_
 refine R.lss rfl rfl rfl ?_
 refine R.pkTE rfl rfl cA ?_
 refine aA ?_
 refine nN (T.has Has.nil ?_)
 refine T.ret ?_
 have hM : k_72 a0 = (decide (a0.1 < 7)) := by rw [k_72, if_t g6]
 exact fin1L (v := .bool (decide (a0.1 < 7))) [] rfl rfl (List.Sublist.refl _) ⟨rfl, by first | rw [hM] | rfl⟩
 refine oF ?_
 refine oF ?_
 refine oF ?_
 refine R.pkFE rfl rfl cA ?_
 refine aA ?_
 refine nN (T.has Has.nil ?_)
 refine T.ret ?_
 have hM : k_72 a0 = false := by rw [k_72, if_f g6]
 exact fin1L (v := .bool false) [] rfl rfl (List.Sublist.refl _) ⟨rfl, by first | rw [hM] | rfl⟩
def k_3d (a0 : Int) (a1 : Int × Bool) : Bool :=
  if (0 : Int) ≤ a1.1 then (if a1.1 ≤ 7 then (if (2 : Int) ≤ a0 then true else ((decide ((a1 : Int × Bool) = ((0, true) : Int × Bool))))) else false) else false
theorem alloc_Check_1_c (H : Heap) {tG1 : TypeId} (hG1 : gA H 1 tG1) (a0 : Int) (a1 : Int × Bool) : Fv Tryz.prog (fnv 194) [.int .i64 a0, .agg #[.int .i64 a1.1, .bool a1.2]] H (.bool (k_3d a0 a1)) := by
 refine Fc.of_body (N := 22) func194 rfl kA rfl rfl ?_
 intro w0
 refine sR (R.box rfl cA ?_)
 intro b3
 refine aA ?_
 refine TL.shut .hd ?_
 intro a4 a5 a6
 have a2 : a4 b3 = some (.cells #[.int .i64 (a1.1), .bool (a1.2)] 110) := shut1 a6
 refine nN (sR (fA underlying110 rfl sizeOf3 ?_))
 refine R.ldH isAgg3 rfl rfl a2 rfl ?_
 refine R.geq rfl rfl rfl ?_
 refine mA ?_
 refine TL.gsplitD 8 rfl (fun g8 => ?_) (fun g8 => ?_)
 refine fA underlying110 rfl sizeOf3 ?_
 refine R.ldH isAgg3 rfl rfl a2 rfl ?_
 refine R.leq rfl rfl rfl ?_
 refine R.pkTE rfl rfl cA ?_
 refine mA ?_
 refine TL.gsplitD 13 rfl (fun a3 => ?_) (fun a3 => ?_)
 refine mA ?_
 refine R.geq rfl rfl rfl ?_
 refine mA ?_
 refine TL.gsplitD 16 rfl (fun g16 => ?_) (fun g16 => ?_)
 refine oF ?_
 refine oF ?_
 refine oF ?_
 refine R.pkTE rfl rfl cA ?_
 refine R.pkTE rfl rfl cA ?_
 refine aA ?_
 refine nN (T.has Has.nil ?_)
 refine T.ret ?_
 have hM : k_3d a0 a1 = true := by rw [k_3d, if_pos g8, if_pos a3, if_pos g16]
 exact fin1L (v := .bool true) [] rfl rfl (List.Sublist.refl _) ⟨rfl, by first | rw [hM] | rfl⟩
 refine R.ldXH (cs := [.int .i64 (a1.1), .bool (a1.2)]) (l := [.int .i64 (a1.1), .bool (a1.2)]) isAgg110 sizeOf110 rfl rfl a2 rfl rfl ?_
 refine R.ldXH (cs := [.int .i64 0, .bool true]) (l := [.int .i64 0, .bool true]) isAgg110 sizeOf110 rfl rfl (a5 _ _ hG1) rfl rfl ?_
 refine R.eqG (a := (a1 : Int × Bool)) (b := (((0, true) : Int × Bool) : Int × Bool)) (eqT110 9998 a1 (((0, true) : Int × Bool))) eqG110 rfl rfl rfl ?_
 refine R.pkFE rfl rfl cA ?_
 refine R.pkTE rfl rfl cA ?_
 refine aA ?_
 refine nN (T.has Has.nil ?_)
 refine T.ret ?_
 have hM : k_3d a0 a1 = (decide ((a1 : Int × Bool) = ((0, true) : Int × Bool))) := by rw [k_3d, if_pos g8, if_pos a3, if_neg g16]
 exact fin1L (v := .bool (decide ((a1 : Int × Bool) = ((0, true) : Int × Bool)))) [] rfl rfl (List.Sublist.refl _) ⟨rfl, by first | rw [hM] | rfl⟩
 refine oF ?_
 refine oF ?_
 refine oF ?_
 refine TL.offU rfl rfl ?_
 refine TL.offU rfl rfl ?_
 refine TL.offU rfl rfl ?_
 refine oF ?_
 refine R.pkFE rfl rfl cA ?_
 refine aA ?_
 refine nN (T.has Has.nil ?_)
 refine T.ret ?_
 have hM : k_3d a0 a1 = false := by rw [k_3d, if_pos g8, if_neg a3]
 exact fin1L (v := .bool false) [] rfl rfl (List.Sublist.refl _) ⟨rfl, by first | rw [hM] | rfl⟩
 refine oF ?_
 refine oF ?_
 refine oF ?_
 refine R.pkFE rfl rfl cA ?_
 refine mA ?_
 refine oF ?_
 refine oF ?_
 refine oF ?_
 refine TL.offU rfl rfl ?_
 refine TL.offU rfl rfl ?_
 refine TL.offU rfl rfl ?_
 refine oF ?_
 refine R.pkFE rfl rfl cA ?_
 refine aA ?_
 refine nN (T.has Has.nil ?_)
 refine T.ret ?_
 have hM : k_3d a0 a1 = false := by rw [k_3d, if_neg g8]
 exact fin1L (v := .bool false) [] rfl rfl (List.Sublist.refl _) ⟨rfl, by first | rw [hM] | rfl⟩
def k_67  : List (Int × Bool) → Nat → ((List Int)) → (List Int)
  | [], kl3, sl3 => sl3
  | yl3 :: ysl3, kl3, sl3 => if (k_72 yl3) = true then (k_67 ysl3 (kl3 + 1) ((sl3 ++ [((kl3 : Int) + 1)]))) else (k_67 ysl3 (kl3 + 1) sl3)
def k_27 (a0 : Int × (List (Int × Bool)) × (List Int)) : Int :=
  LR.seq (if (1 : Int) ≤ a0.1 then (if a0.1 ≤ 1048576 then (if (2 : Int) ≤ (a0.2.1.length : Int) then (if (a0.2.1.length : Int) ≤ (IntKind.i64.wrap (a0.1 + 2)) then ((decide (((k_83 a0) : Int) ≤ a0.1))) else false) else false) else false) else false : Bool) (fun sc1 => LR.seq (if sc1 = true then ((k_58 a0.2.1 ((fun z0 z1 => k_3d z0 z1)))) else false : Bool) (fun sc2 => if (!sc2) = true then 120 else (LR.seq (k_67 a0.2.1 0 []) (fun ol3 => LR.seq (k_75 a0.2.2) (fun r63 => LR.seq (k_70 r63) (fun r64 => if ¬ (r64 = ol3) then 120 else 0))))))
theorem k_b4 (H : Heap) {tG1 : TypeId} (hG1 : gA H 1 tG1) (a0 : Int × (List (Int × Bool)) × (List Int)) (e0 : Value) (a7 : RdS slotE H e0 a0.2.1) (e1 : Value) (b0 : RdS (intE .i64) H e1 a0.2.2) (hs : a0.2.1.length ≤ 2000000) (hf : a0.2.2.length ≤ 2000000) : Fv Tryz.prog (fnv 127) [.agg #[.int .i64 a0.1, e0, e1]] H (.int .i64 (k_27 a0)) := by
 refine Fc.of_body (N := 68) func127 rfl kA rfl rfl ?_
 intro w0
 obtain ⟨b2, b3, rfl, hca0_1, hda0_1, a7⟩ := a7.shape
 obtain ⟨c3, c4, rfl, hca0_2, hda0_2, b0⟩ := b0.shape
 refine sR (R.box rfl cA ?_)
 intro b1
 refine aA ?_
 refine TL.shut .hd ?_
 intro e8 a5 e9
 have a3 : e8 b1 = some (.cells #[.int .i64 (a0.1), .slice b2 a0.2.1.length b3, .slice c3 a0.2.2.length c4] 27) := shut1 e9
 refine nN (sR (fA underlying27 rfl sizeOf24 ?_))
 refine R.ldH isAgg24 rfl rfl a3 rfl ?_
 refine R.len underlying24 rfl rfl ?_
 refine aA ?_
 refine nN (T.seq (T.cutK (ι := Bool) (fun b5 H' L' ds' => Has L' [] ∧ (if (1 : Int) ≤ a0.1 then (if a0.1 ≤ 1048576 then (if (2 : Int) ≤ (a0.2.1.length : Int) then (if (a0.2.1.length : Int) ≤ (IntKind.i64.wrap (a0.1 + 2)) then ((decide (((k_83 a0) : Int) ≤ a0.1))) else false) else false) else false) else false : Bool) = b5) (fun b5 => [(1, .pointer (some ⟨b1, 0, none⟩)), (4, .bool (b5))]) ?_ ?_))
 refine T.draw k_2f kA ?_
 refine vP 0 [1, 2, 3, 4, 5, 6, 7, 8, 9, 10, 11, 12, 13, 14, 15, 16, 17, 18, 19, 20, 21, 22, 23, 24, 25, 26] rfl underlying27 rfl sizeOf3 ?_
 refine vA 1 [2, 3, 4, 5, 6, 7, 8, 9, 10, 11, 12, 13, 14, 15, 16, 17, 18, 19, 20, 21, 22, 23, 24, 25, 26] rfl (fun _ _ h_ => R.ldH isAgg3 rfl rfl a3 rfl (TL.nil h_)) ?_
 refine vA 2 [3, 4, 5, 6, 7, 8, 9, 10, 11, 12, 13, 14, 15, 16, 17, 18, 19, 20, 21, 22, 23, 24, 25, 26] rfl (fun _ _ h_ => R.geq rfl rfl rfl (TL.nil h_)) ?_
 refine vM 3 [4, 5, 6, 7, 8, 9, 10, 11, 12, 13, 14, 15, 16, 17, 18, 19, 20, 21, 22, 23, 24, 25, 26] rfl rfl cA ?_
 refine Plan.gsplitD 14 rfl (fun b9 => ?_) (fun b9 => ?_)
 refine vP 4 [5, 6, 7, 8, 9, 10, 11, 12, 13, 14, 15, 16, 17, 18, 19, 20, 21, 22, 23, 24, 25, 26] rfl underlying27 rfl sizeOf3 ?_
 refine vA 5 [6, 7, 8, 9, 10, 11, 12, 13, 14, 15, 16, 17, 18, 19, 20, 21, 22, 23, 24, 25, 26] rfl (fun _ _ h_ => R.ldH isAgg3 rfl rfl a3 rfl (TL.nil h_)) ?_
 refine vA 6 [7, 8, 9, 10, 11, 12, 13, 14, 15, 16, 17, 18, 19, 20, 21, 22, 23, 24, 25, 26] rfl (fun _ _ h_ => R.leq rfl rfl rfl (TL.nil h_)) ?_
 refine vA 7 [8, 9, 10, 11, 12, 13, 14, 15, 16, 17, 18, 19, 20, 21, 22, 23, 24, 25, 26] rfl (fun _ _ h_ => R.pkTE rfl rfl cA (TL.nil h_)) ?_
 refine vM 8 [9, 10, 11, 12, 13, 14, 15, 16, 17, 18, 19, 20, 21, 22, 23, 24, 25, 26] rfl rfl cA ?_
 refine Plan.gsplitD 19 rfl (fun d3 => ?_) (fun d3 => ?_)
 refine vM 9 [10, 11, 12, 13, 14, 15, 16, 17, 18, 19, 20, 21, 22, 23, 24, 25, 26] rfl rfl cA ?_
 refine vA 10 [11, 12, 13, 14, 15, 16, 17, 18, 19, 20, 21, 22, 23, 24, 25, 26] rfl (fun _ _ h_ => R.geq rfl rfl rfl (TL.nil h_)) ?_
 refine vA 11 [12, 13, 14, 15, 16, 17, 18, 19, 20, 21, 22, 23, 24, 25, 26] rfl (fun _ _ h_ => R.pkTE rfl rfl cA (TL.nil h_)) ?_
 refine vM 12 [13, 14, 15, 16, 17, 18, 19, 20, 21, 22, 23, 24, 25, 26] rfl rfl cA ?_
 refine Plan.gsplitD 23 rfl (fun e2 => ?_) (fun e2 => ?_)
 refine vM 13 [14, 15, 16, 17, 18, 19, 20, 21, 22, 23, 24, 25, 26] rfl rfl cA ?_
 refine vP 14 [15, 16, 17, 18, 19, 20, 21, 22, 23, 24, 25, 26] rfl underlying27 rfl sizeOf3 ?_
 refine vA 15 [16, 17, 18, 19, 20, 21, 22, 23, 24, 25, 26] rfl (fun _ _ h_ => R.ldH isAgg3 rfl rfl a3 rfl (TL.nil h_)) ?_
 refine vA 16 [17, 18, 19, 20, 21, 22, 23, 24, 25, 26] rfl (fun _ _ h_ => R.add rfl rfl rfl (TL.nil h_)) ?_
 refine vA 17 [18, 19, 20, 21, 22, 23, 24, 25, 26] rfl (fun _ _ h_ => R.leq rfl rfl rfl (TL.nil h_)) ?_
 refine vA 18 [19, 20, 21, 22, 23, 24, 25, 26] rfl (fun _ _ h_ => R.pkTE rfl rfl cA (TL.nil h_)) ?_
 refine vM 19 [20, 21, 22, 23, 24, 25, 26] rfl rfl cA ?_
 refine Plan.gsplitD 30 rfl (fun g30 => ?_) (fun g30 => ?_)
 refine vA 20 [21, 22, 23, 24, 25, 26] rfl (fun _ _ h_ => R.ldXH (cs := [.int .i64 (a0.1), sl b2 a0.2.1 b3, sl c3 a0.2.2 c4]) (l := [.int .i64 (a0.1), sl b2 a0.2.1 b3, sl c3 a0.2.2 c4]) isAgg27 sizeOf27 rfl rfl a3 rfl rfl (TL.nil h_)) ?_
 refine vA 21 [22, 23, 24, 25, 26] rfl (fun _ _ h_ => R.callv rfl rfl rfl (alloc_many_c _ a0 _ (a7.mono a5) _ (b0.mono a5)) (TL.nil h_)) ?_
 refine vP 22 [23, 24, 25, 26] rfl underlying27 rfl sizeOf3 ?_
 refine vA 23 [24, 25, 26] rfl (fun _ _ h_ => R.ldH isAgg3 rfl rfl a3 rfl (TL.nil h_)) ?_
 refine vA 24 [25, 26] rfl (fun _ _ h_ => R.leq rfl rfl rfl (TL.nil h_)) ?_
 refine vA 25 [26] rfl (fun _ _ h_ => R.pkTE rfl rfl cA (TL.nil h_)) ?_
 refine vA 26 [] rfl (fun _ _ h_ => aA (TL.nil h_)) ?_
 refine Plan.done (Post.thnN ?_)
 exact ⟨(decide (((k_83 a0) : Int) ≤ a0.1)), HLe.refl _, ⟨Has.nil, (by rw [if_pos b9, if_pos d3, if_pos e2, if_pos g30])⟩, rfl, rfl, trivial⟩
 refine vO 20 [21, 22, 23, 24, 25, 26] rfl rfl rfl rfl ?_
 refine vO 21 [22, 23, 24, 25, 26] rfl rfl rfl rfl ?_
 refine vO 22 [23, 24, 25, 26] rfl rfl rfl rfl ?_
 refine vO 23 [24, 25, 26] rfl rfl rfl rfl ?_
 refine vO 24 [25, 26] rfl rfl rfl rfl ?_
 refine vA 25 [26] rfl (fun _ _ h_ => R.pkFE rfl rfl cA (TL.nil h_)) ?_
 refine vA 26 [] rfl (fun _ _ h_ => aA (TL.nil h_)) ?_
 refine Plan.done (Post.thnN ?_)
 exact ⟨false, HLe.refl _, ⟨Has.nil, (by rw [if_pos b9, if_pos d3, if_pos e2, if_neg g30])⟩, rfl, rfl, trivial⟩
 refine vO 13 [14, 15, 16, 17, 18, 19, 20, 21, 22, 23, 24, 25, 26] rfl rfl rfl rfl ?_
 refine vO 14 [15, 16, 17, 18, 19, 20, 21, 22, 23, 24, 25, 26] rfl rfl rfl rfl ?_
 refine vO 15 [16, 17, 18, 19, 20, 21, 22, 23, 24, 25, 26] rfl rfl rfl rfl ?_
 refine vO 16 [17, 18, 19, 20, 21, 22, 23, 24, 25, 26] rfl rfl rfl rfl ?_
 refine vO 17 [18, 19, 20, 21, 22, 23, 24, 25, 26] rfl rfl rfl rfl ?_
 refine vA 18 [19, 20, 21, 22, 23, 24, 25, 26] rfl (fun _ _ h_ => R.pkFE rfl rfl cA (TL.nil h_)) ?_
 refine vM 19 [20, 21, 22, 23, 24, 25, 26] rfl rfl cA ?_
 refine vO 20 [21, 22, 23, 24, 25, 26] rfl rfl rfl rfl ?_
 refine vO 21 [22, 23, 24, 25, 26] rfl rfl rfl rfl ?_
 refine vO 22 [23, 24, 25, 26] rfl rfl rfl rfl ?_
 refine vO 23 [24, 25, 26] rfl rfl rfl rfl ?_
 refine vO 24 [25, 26] rfl rfl rfl rfl ?_
 refine vA 25 [26] rfl (fun _ _ h_ => R.pkFE rfl rfl cA (TL.nil h_)) ?_
 refine vA 26 [] rfl (fun _ _ h_ => aA (TL.nil h_)) ?_
 refine Plan.done (Post.thnN ?_)
 exact ⟨false, HLe.refl _, ⟨Has.nil, (by rw [if_pos b9, if_pos d3, if_neg e2])⟩, rfl, rfl, trivial⟩
 refine vO 9 [10, 11, 12, 13, 14, 15, 16, 17, 18, 19, 20, 21, 22, 23, 24, 25, 26] rfl rfl rfl rfl ?_
 refine vO 10 [11, 12, 13, 14, 15, 16, 17, 18, 19, 20, 21, 22, 23, 24, 25, 26] rfl rfl rfl rfl ?_
 refine vA 11 [12, 13, 14, 15, 16, 17, 18, 19, 20, 21, 22, 23, 24, 25, 26] rfl (fun _ _ h_ => R.pkFE rfl rfl cA (TL.nil h_)) ?_
 refine vM 12 [13, 14, 15, 16, 17, 18, 19, 20, 21, 22, 23, 24, 25, 26] rfl rfl cA ?_
 refine vO 13 [14, 15, 16, 17, 18, 19, 20, 21, 22, 23, 24, 25, 26] rfl rfl rfl rfl ?_
 refine vO 14 [15, 16, 17, 18, 19, 20, 21, 22, 23, 24, 25, 26] rfl rfl rfl rfl ?_
 refine vO 15 [16, 17, 18, 19, 20, 21, 22, 23, 24, 25, 26] rfl rfl rfl rfl ?_
 refine vO 16 [17, 18, 19, 20, 21, 22, 23, 24, 25, 26] rfl rfl rfl rfl ?_
 refine vO 17 [18, 19, 20, 21, 22, 23, 24, 25, 26] rfl rfl rfl rfl ?_
 refine vA 18 [19, 20, 21, 22, 23, 24, 25, 26] rfl (fun _ _ h_ => R.pkFE rfl rfl cA (TL.nil h_)) ?_
 refine vM 19 [20, 21, 22, 23, 24, 25, 26] rfl rfl cA ?_
 refine vO 20 [21, 22, 23, 24, 25, 26] rfl rfl rfl rfl ?_
 refine vO 21 [22, 23, 24, 25, 26] rfl rfl rfl rfl ?_
 refine vO 22 [23, 24, 25, 26] rfl rfl rfl rfl ?_
 refine vO 23 [24, 25, 26] rfl rfl rfl rfl ?_
 refine vO 24 [25, 26] rfl rfl rfl rfl ?_
 refine vA 25 [26] rfl (fun _ _ h_ => R.pkFE rfl rfl cA (TL.nil h_)) ?_
 refine vA 26 [] rfl (fun _ _ h_ => aA (TL.nil h_)) ?_
 refine Plan.done (Post.thnN ?_)
 exact ⟨false, HLe.refl _, ⟨Has.nil, (by rw [if_pos b9, if_neg d3])⟩, rfl, rfl, trivial⟩
 refine vO 4 [5, 6, 7, 8, 9, 10, 11, 12, 13, 14, 15, 16, 17, 18, 19, 20, 21, 22, 23, 24, 25, 26] rfl rfl rfl rfl ?_
 refine vO 5 [6, 7, 8, 9, 10, 11, 12, 13, 14, 15, 16, 17, 18, 19, 20, 21, 22, 23, 24, 25, 26] rfl rfl rfl rfl ?_
 refine vO 6 [7, 8, 9, 10, 11, 12, 13, 14, 15, 16, 17, 18, 19, 20, 21, 22, 23, 24, 25, 26] rfl rfl rfl rfl ?_
 refine vA 7 [8, 9, 10, 11, 12, 13, 14, 15, 16, 17, 18, 19, 20, 21, 22, 23, 24, 25, 26] rfl (fun _ _ h_ => R.pkFE rfl rfl cA (TL.nil h_)) ?_
 refine vM 8 [9, 10, 11, 12, 13, 14, 15, 16, 17, 18, 19, 20, 21, 22, 23, 24, 25, 26] rfl rfl cA ?_
 refine vO 9 [10, 11, 12, 13, 14, 15, 16, 17, 18, 19, 20, 21, 22, 23, 24, 25, 26] rfl rfl rfl rfl ?_
 refine vO 10 [11, 12, 13, 14, 15, 16, 17, 18, 19, 20, 21, 22, 23, 24, 25, 26] rfl rfl rfl rfl ?_
 refine vA 11 [12, 13, 14, 15, 16, 17, 18, 19, 20, 21, 22, 23, 24, 25, 26] rfl (fun _ _ h_ => R.pkFE rfl rfl cA (TL.nil h_)) ?_
 refine vM 12 [13, 14, 15, 16, 17, 18, 19, 20, 21, 22, 23, 24, 25, 26] rfl rfl cA ?_
 refine vO 13 [14, 15, 16, 17, 18, 19, 20, 21, 22, 23, 24, 25, 26] rfl rfl rfl rfl ?_
 refine vO 14 [15, 16, 17, 18, 19, 20, 21, 22, 23, 24, 25, 26] rfl rfl rfl rfl ?_
 refine vO 15 [16, 17, 18, 19, 20, 21, 22, 23, 24, 25, 26] rfl rfl rfl rfl ?_
 refine vO 16 [17, 18, 19, 20, 21, 22, 23, 24, 25, 26] rfl rfl rfl rfl ?_
 refine vO 17 [18, 19, 20, 21, 22, 23, 24, 25, 26] rfl rfl rfl rfl ?_
 refine vA 18 [19, 20, 21, 22, 23, 24, 25, 26] rfl (fun _ _ h_ => R.pkFE rfl rfl cA (TL.nil h_)) ?_
 refine vM 19 [20, 21, 22, 23, 24, 25, 26] rfl rfl cA ?_
 refine vO 20 [21, 22, 23, 24, 25, 26] rfl rfl rfl rfl ?_
 refine vO 21 [22, 23, 24, 25, 26] rfl rfl rfl rfl ?_
 refine vO 22 [23, 24, 25, 26] rfl rfl rfl rfl ?_
 refine vO 23 [24, 25, 26] rfl rfl rfl rfl ?_
 refine vO 24 [25, 26] rfl rfl rfl rfl ?_
 refine vA 25 [26] rfl (fun _ _ h_ => R.pkFE rfl rfl cA (TL.nil h_)) ?_
 refine vA 26 [] rfl (fun _ _ h_ => aA (TL.nil h_)) ?_
 refine Plan.done (Post.thnN ?_)
 exact ⟨false, HLe.refl _, ⟨Has.nil, (by rw [if_neg b9])⟩, rfl, rfl, trivial⟩
 intro b5 σ_c1 H_c1 L_c1 ds_c1 a6 f0
 obtain ⟨hLc1, d6⟩ := f0
 refine T.has hLc1 ?_
 refine T.seq (T.cutK (ι := Bool) (fun c5 H' L' ds' => Has L' [] ∧ (if b5 = true then ((k_58 a0.2.1 ((fun z0 z1 => k_3d z0 z1)))) else false : Bool) = c5) (fun c5 => [(1, .pointer (some ⟨b1, 0, none⟩)), (4, .bool (c5))]) ?_ ?_)
 refine T.region (mA ?_)
 refine mA ?_
 refine TL.gsplit 38 rfl (fun g38 => ?_) (fun g38 => ?_)
 refine fA underlying27 rfl sizeOf24 ?_
 refine R.ldH isAgg24 rfl rfl (a6 _ _ a3) rfl ?_
 refine R.callv rfl rfl rfl (alloc_all_Slot_c _ _ a0.2.1 (a7.mono (a5.trans a6)) _ (fun z0 z1 => k_3d z0 z1) (fun H2 h2 z0 z1 => alloc_Check_1_c H2 (h2 _ _ ((a5.trans a6) _ _ hG1)) z0 z1) rfl) ?_
 refine R.pkTE rfl rfl cA ?_
 refine aA ?_
 refine nN ?_
 exact ⟨(k_58 a0.2.1 ((fun z0 z1 => k_3d z0 z1))), HLe.refl _, ⟨Has.nil, (by rw [if_t g38])⟩, rfl, rfl, trivial⟩
 refine oF ?_
 refine oF ?_
 refine oF ?_
 refine R.pkFE rfl rfl cA ?_
 refine aA ?_
 refine nN ?_
 exact ⟨false, HLe.refl _, ⟨Has.nil, (by rw [if_f g38])⟩, rfl, rfl, trivial⟩
 intro c5 σ_c2 H_c2 L_c2 ds_c2 c6 f1
 obtain ⟨hLc2, d7⟩ := f1
 refine T.has hLc2 ?_
 refine T.seq (sR (mA ?_))
 refine R.not rfl rfl ?_
 refine nN (T.cond rfl (fun c0 => ?_) (fun c0 => ?_))
 refine T.set 44 (.bool true) (congrArg Value.bool c0) ?_
 refine sR (aA ?_)
 refine nN (T.has Has.nil ?_)
 refine T.ret (Post.thnR ?_)
 have hM : k_27 a0 = 120 := by rw [k_27, d6, LR.seq_go, d7, LR.seq_go, if_t c0]
 exact fin1L (v := .int .i64 120) [] rfl rfl (List.Sublist.refl _) ⟨rfl, by first | rw [hM] | rfl⟩
 refine T.set 44 (.bool false) (congrArg Value.bool c0) ?_
 refine T.skip (Post.thnN (sR ?_))
 refine aA ?_
 refine nN (T.seq (sR (fA underlying27 rfl sizeOf24 ?_)))
 refine R.ldH isAgg24 rfl rfl ((a6.trans c6) _ _ a3) rfl ?_
 refine R.len underlying24 rfl rfl ?_
 refine mA ?_
 refine nN (T.block (T.loop (ι := Nat × Value × (List Int) × Chunk) (fun ⟨a1, b6, a2, a9⟩ H' L' ds' => a1 ≤ a0.2.1.length ∧ Has L' [a9] ∧ OwnS (intE .i64) 3 H' b6 a2 a9 ∧ a2.length ≤ a1 ∧ k_67 (a0.2.1.drop a1) a1 a2 = k_67 a0.2.1 0 []) (fun ⟨a1, b6, a2, a9⟩ => [(48, .int .i64 (a1 : Int)), (1, .pointer (some ⟨b1, 0, none⟩)), (5, b6), (46, .slice b2 a0.2.1.length b3), (47, .int .i64 (a0.2.1.length : Int))]) (fun ⟨a1, b6, a2, a9⟩ => a0.2.1.length - a1) (0, .slice none 0 0, [], []) ?_ ?_ ?_))
 exact ⟨oA, (Has.none Has.nil), OwnS.nil, bA, (by rfl)⟩
 exact ⟨rfl, rfl, rfl, rfl, rfl, trivial⟩
 intro ⟨a1, b6, a2, a9⟩ σ_l3 H_l3 L_l3 ds_l3 b8 c7
 obtain ⟨hkl3, c7⟩ := c7
 obtain ⟨hLl3, c8, hBl3_0, d8⟩ := c7
 obtain ⟨A5l3, p5l3, rfl, m5l3, n5l3_⟩ := OwnS.shape c8
 refine T.has hLl3 ?_
 refine sR (R.lss rfl rfl rfl ?_)
 refine nN (T.seq (T.condD rfl (fun c49 => ?_) (fun c49 => ?_)))
 have hltl3 : a1 < a0.2.1.length := by omega
 obtain ⟨a4, d9⟩ := getk (xs := a0.2.1) (k := a1) oA
 refine T.skip (Post.thnN (T.seq ?_))
 refine T.block (sR (mA ?_))
 obtain ⟨b51, o51, i51, k51⟩ := RdS.elem (a7.mono (a5.trans (a6.trans (c6.trans b8)))) d9
 obtain ⟨l51, g51, k51⟩ := k51
 obtain rfl : l51 = [.int .i64 (a4.1), .bool (a4.2)] := g51
 refine R.ixp underlying24 sizeOf110 rfl rfl rfl oA i51 ?_
 refine R.ldK (l := [.int .i64 (a4.1), .bool (a4.2)]) isAgg110 sizeOf110 rfl rfl k51 rfl ?_
 refine R.alloc zeroValue110 rfl ?_
 intro b7
 refine aA ?_
 refine stY (l := [.int .i64 (a4.1), .bool (a4.2)]) (new := [.int .i64 (a4.1), .bool (a4.2)]) .hd sizeOf110 rfl rfl ?_
 refine TL.shut .hd ?_
 intro e3 b4 f2
 have f3 : e3 b7 = some (.cells #[.int .i64 (a4.1), .bool (a4.2)] 110) := shut1 f2
 refine nN (sR (R.ldXH (cs := [.int .i64 (a4.1), .bool (a4.2)]) (l := [.int .i64 (a4.1), .bool (a4.2)]) isAgg110 sizeOf110 rfl rfl f3 rfl rfl ?_))
 refine R.callv rfl rfl rfl (alloc_usable_c _ a4) ?_
 refine nN (T.cond rfl (fun d4 => ?_) (fun d4 => ?_))
 refine T.set 54 (.bool true) (congrArg Value.bool d4) ?_
 refine T.region (mA ?_)
 refine mA ?_
 refine R.addI rfl rfl rfl oA ?_
 refine R.bs rfl (k_4 underlying25 sizeOf3 zeroValue3 rfl rfl) ?_
 intro b58
 have w58 := lit1 (E := (intE .i64)) (e := 3) (H := e3) (b := b58) (y := ((a1 : Int) + 1)) (a := [.int .i64 ((a1 : Int) + 1)]) rfl
 obtain ⟨k59, y59, r59⟩ := Src.ownA w58
 refine R.app (E := (intE .i64)) (e := 3) (xs := a2) (ys := [((a1 : Int) + 1)]) k_aa rfl rfl rfl (OwnS.mono c8 b4) (.tl .hd) (r59 _ .hd) y59 lA lA ?_
 intro v59 c59 w59
 obtain ⟨A59, p59, rfl, m59, n59⟩ := OwnS.shape w59
 refine TL.del (.tl .hd) ?_
 refine aA ?_
 refine TL.nil (Post.blkN ?_)
 refine id (Post.thnN (T.region ?_))
 refine R.addI rfl rfl rfl oA ?_
 refine mA ?_
 refine nN ?_
 exact ⟨(a1 + 1, sl A59 (a2 ++ [((a1 : Int) + 1)]) p59, (a2 ++ [((a1 : Int) + 1)]), c59), (b8.trans b4), ⟨oA, (Has.cons .hd Has.nil), w59, bA, (by rw [← d8, k_8 d9, k_67]; rw [if_t d4])⟩, by show a0.2.1.length - (a1 + 1) < a0.2.1.length - a1; omega, rfl, rfl, rfl, rfl, rfl, trivial⟩
 refine T.set 54 (.bool false) (congrArg Value.bool d4) ?_
 refine T.skip (Post.blkN ?_)
 refine id (Post.thnN (T.region ?_))
 refine R.addI rfl rfl rfl oA ?_
 refine mA ?_
 refine nN ?_
 exact ⟨(a1 + 1, sl A5l3 a2 p5l3, a2, a9), (b8.trans b4), ⟨oA, (Has.cons .hd Has.nil), (OwnS.mono c8 b4), bA, (by rw [← d8, k_8 d9, k_67]; rw [if_f d4])⟩, by show a0.2.1.length - (a1 + 1) < a0.2.1.length - a1; omega, rfl, rfl, rfl, rfl, rfl, trivial⟩
 refine T.exit (Post.thnE (Post.thnE (Post.blkX ?_)))
 have e7 : k_67 a0.2.1 0 [] = a2 := (d8.symm.trans (by rw [show a1 = a0.2.1.length by omega, List.drop_length, k_67]))
 refine id (Post.thnN (T.seq ?_))
 refine sR (fA underlying27 rfl sizeOf25 ?_)
 refine R.ldH isAgg25 rfl rfl ((a6.trans (c6.trans b8)) _ _ a3) rfl ?_
 obtain ⟨r63, c9⟩ : ∃ r, r = (k_75 a0.2.2) := ⟨_, rfl⟩
 refine R.callp rfl rfl rfl (slices_Values_int_c _ _ a0.2.2 (b0.mono (a5.trans (a6.trans (c6.trans b8))))) ?_
 intro v63 H63 s63 q63
 rw [← c9] at q63
 obtain ⟨f5, rfl, e4⟩ := q63
 have t63 := congrArg List.length (c9.trans (slices_Values_int_eq _))
 obtain ⟨r64, d0⟩ : ∃ r, r = (k_70 r63) := ⟨_, rfl⟩
 refine TL.call [] rfl rfl rfl (slices_Sorted_int_c _ _ _ r63 (enters_of func218 kA rfl) e4 bA) ?_
 intro v64 H64 L64 s64 q64
 rw [← d0] at q64
 obtain ⟨f6, f7, rfl, rfl, c1⟩ := q64
 obtain ⟨f8, f9, rfl, g0, g1⟩ := OwnS.shape c1
 have t64 : r64.length ≤ 4000000 := by rw [d0, slices_Sorted_int_eq, (k_26 _).length_eq]; omega
 refine mA ?_
 refine TL.shut .hd ?_
 intro f4 a8 d1
 have d2 := OwnS.read c1 a8 d1
 refine TL.shut .hd ?_
 intro g2 c2 e5
 have e6 := OwnS.read (OwnS.mono c8 (s63.trans (s64.trans a8))) c2 e5
 refine R.callv rfl rfl rfl (slices_Equal_int_d _ _ r64 (d2.mono c2) _ a2 e6) ?_
 refine R.notD rfl rfl ?_
 refine nN (T.condD rfl (fun d5 => ?_) (fun d5 => ?_))
 refine T.set 67 (.bool true) (congrArg Value.bool (decide_eq_true d5)) ?_
 refine sR (aA ?_)
 refine nN (T.has Has.nil ?_)
 refine T.ret (Post.thnR ?_)
 have hM : k_27 a0 = 120 := by subst d0; subst c9; rw [k_27, d6, LR.seq_go, d7, LR.seq_go, if_f c0, e7, LR.seq_go, LR.seq_go, LR.seq_go, if_pos d5]
 exact fin1L (v := .int .i64 120) [] rfl rfl (List.Sublist.refl _) ⟨rfl, by first | rw [hM] | rfl⟩
 refine T.set 67 (.bool false) (congrArg Value.bool (decide_eq_false d5)) ?_
 refine T.skip (Post.thnN (sR ?_))
 refine aA ?_
 refine nN (T.has Has.nil ?_)
 refine T.ret ?_
 have hM : k_27 a0 = 0 := by subst d0; subst c9; rw [k_27, d6, LR.seq_go, d7, LR.seq_go, if_f c0, e7, LR.seq_go, LR.seq_go, LR.seq_go, if_neg d5]
 exact fin1L (v := .int .i64 0) [] rfl rfl (List.Sublist.refl _) ⟨rfl, by first | rw [hM] | rfl⟩
def k_59 (a0 : Int × (List (Int × Bool)) × (List Int)) (a1 : Int) : Bool :=
  if ((kindG a1) : Int) ≠ 1 then false else (LR.seq (k_1 a1) (fun r12 => if r12.1 ≤ (a0.2.1.length : Int) then ((decide (((a0.2.1.getD (((r12.1 - 1)).toNat) (((0, false) : Int × Bool) : Int × Bool)) : Int × Bool) = (r12.2, true)))) else false))
theorem alloc_alive_c (H : Heap) (a0 : Int × (List (Int × Bool)) × (List Int)) (a7 : Value) (a4 : RdS slotE H a7 a0.2.1) (a8 : Value) (a9 : RdS (intE .i64) H a8 a0.2.2) (a1 : Int) (hs : a0.2.1.length ≤ 2000000) (hf : a0.2.2.length ≤ 2000000) : Fv Tryz.prog (fnv 155) [.agg #[.int .i64 a0.1, a7, a8], .int .u64 a1] H (.bool (k_59 a0 a1)) := by
 refine Fc.of_body (N := 31) func155 rfl kA rfl rfl ?_
 intro w0
 obtain ⟨b1, b3, rfl, hca0_1, hda0_1, a4⟩ := a4.shape
 obtain ⟨b4, b5, rfl, hca0_2, hda0_2, a9⟩ := a9.shape
 refine sR (R.box rfl cA ?_)
 intro b2
 refine aA ?_
 refine TL.shut .hd ?_
 intro b6 b7 b8
 have b0 : b6 b2 = some (.cells #[.int .i64 (a0.1), .slice b1 a0.2.1.length b3, .slice b4 a0.2.2.length b5] 27) := shut1 b8
 refine nN (T.seq (sR (mA ?_)))
 refine R.callv rfl rfl rfl (kindG_c _ a1) ?_
 refine R.neq rfl rfl rfl ?_
 refine nN (T.condD rfl (fun c9 => ?_) (fun c9 => ?_))
 refine T.set 9 (.bool true) (congrArg Value.bool (decide_eq_true c9)) ?_
 refine sR (aA ?_)
 refine nN (T.has Has.nil ?_)
 refine T.ret (Post.thnR ?_)
 have hM : k_59 a0 a1 = false := by rw [k_59, if_pos c9]
 exact fin1L (v := .bool false) [] rfl rfl (List.Sublist.refl _) ⟨rfl, by first | rw [hM] | rfl⟩
 refine T.set 9 (.bool false) (congrArg Value.bool (decide_eq_false c9)) ?_
 have hki := kind1_idx (by omega : kindG a1 = 1)
 refine T.skip (Post.thnN (sR ?_))
 refine mA ?_
 obtain ⟨a2, a5⟩ : ∃ r, r = (k_1 a1) := ⟨_, rfl⟩
 refine R.callv (v := .tuple #[.int .i64 a2.1, .int .i64 a2.2]) rfl rfl rfl (by rw [a5]; exact k_57 _ (a1)) ?_
 rw [← a5] at hki
 refine mA ?_
 refine R.ext rfl rfl rfl ?_
 refine R.ext rfl rfl rfl ?_
 refine aA ?_
 refine aA ?_
 refine nN (sR (mA ?_))
 refine fA underlying27 rfl sizeOf24 ?_
 refine R.ldH isAgg24 rfl rfl b0 rfl ?_
 refine R.len underlying24 rfl rfl ?_
 refine R.leq rfl rfl rfl ?_
 refine mA ?_
 refine TL.gsplitD 20 rfl (fun g20 => ?_) (fun g20 => ?_)
 refine fA underlying27 rfl sizeOf24 ?_
 refine R.ldH isAgg24 rfl rfl b0 rfl ?_
 refine mA ?_
 refine R.subI rfl rfl rfl oA ?_
 have a6 : ((a2.1 - 1)).toNat < a0.2.1.length := bA
 obtain ⟨a3, e25, h25⟩ : ∃ y, y = (a0.2.1.getD (((a2.1 - 1)).toNat) (((0, false) : Int × Bool) : Int × Bool)) ∧ a0.2.1[((a2.1 - 1)).toNat]? = some y := ⟨_, rfl, k_46 (by first | exact a6 | simpa using a6 | (simp only [List.length_set]; omega) | omega | (rw [(k_26 _).length_eq]; exact a6))⟩
 obtain ⟨b25, o25, i25, k25⟩ := RdS.elem (a4.mono b7) h25
 obtain ⟨l25, g25, k25⟩ := k25
 obtain rfl : l25 = [.int .i64 (a3.1), .bool (a3.2)] := g25
 refine R.ixp underlying24 sizeOf110 rfl rfl rfl bA i25 ?_
 refine R.ldK (l := [.int .i64 (a3.1), .bool (a3.2)]) isAgg110 sizeOf110 rfl rfl k25 rfl ?_
 refine mA ?_
 refine R.bld (cs := [.int .i64 (a2.2), .bool true]) rfl (fun _ => by kernel_rfl) ?_
 refine R.eqG (a := (a3 : Int × Bool)) (b := ((a2.2, true) : Int × Bool)) (eqT110 9998 a3 ((a2.2, true))) eqG110 rfl rfl rfl ?_
 refine R.pkTE rfl rfl cA ?_
 refine aA ?_
 refine nN (T.has Has.nil ?_)
 refine T.ret ?_
 have hM : k_59 a0 a1 = (decide ((a3 : Int × Bool) = (a2.2, true))) := by subst e25; subst a5; rw [k_59, if_neg c9, LR.seq_go, if_pos g20]
 exact fin1L (v := .bool (decide ((a3 : Int × Bool) = (a2.2, true)))) [] rfl rfl (List.Sublist.refl _) ⟨rfl, by first | rw [hM] | rfl⟩
 refine oF ?_
 refine oF ?_
 refine oF ?_
 refine oF ?_
 refine oF ?_
 refine oF ?_
 refine oF ?_
 refine oF ?_
 refine oF ?_
 refine R.pkFE rfl rfl cA ?_
 refine aA ?_
 refine nN (T.has Has.nil ?_)
 refine T.ret ?_
 have hM : k_59 a0 a1 = false := by subst a5; rw [k_59, if_neg c9, LR.seq_go, if_neg g20]
 exact fin1L (v := .bool false) [] rfl rfl (List.Sublist.refl _) ⟨rfl, by first | rw [hM] | rfl⟩
def k_a2 (a0 : Int × (List (Int × Bool)) × (List Int)) : (Int × (List (Int × Bool)) × (List Int)) :=
  (a0.1, a0.2.1, a0.2.2)
theorem alloc_own_c (H : Heap) (a0 : Int × (List (Int × Bool)) × (List Int)) (a8 : Value) (a5 : RdS slotE H a8 a0.2.1) (a9 : Value) (a6 : RdS (intE .i64) H a9 a0.2.2) (hs : a0.2.1.length ≤ 2000000) (hf : a0.2.2.length ≤ 2000000) : Fc Tryz.prog (fnv 164) [.agg #[.int .i64 a0.1, a8, a9]] H [] (fun v' H' L' => ∃ b3 b4 b5 b6, v' = .agg #[.int .i64 (k_a2 a0).1, b3, b4] ∧ L' = [b5, b6] ∧ OwnS slotE 110 H' b3 (k_a2 a0).2.1 b5 ∧ OwnS (intE .i64) 3 H' b4 (k_a2 a0).2.2 b6) := by
 refine Fc.of_body (N := 19) func164 rfl kA rfl rfl ?_
 intro w0
 obtain ⟨b7, b8, rfl, hca0_1, hda0_1, a5⟩ := a5.shape
 obtain ⟨b9, c0, rfl, hca0_2, hda0_2, a6⟩ := a6.shape
 refine sR (R.box rfl cA ?_)
 intro b1
 refine R.alloc zeroValue27 rfl ?_
 intro b2
 refine TL.shut (.tl .hd) ?_
 intro c1 b0 c2
 have a2 : c1 b1 = some (.cells #[.int .i64 (a0.1), .slice b7 a0.2.1.length b8, .slice b9 a0.2.2.length c0] 27) := shut1 c2
 refine nN (sR (fA underlying27 rfl sizeOf24 ?_))
 refine R.ldH isAgg24 rfl rfl a2 rfl ?_
 refine R.len underlying24 rfl rfl ?_
 refine R.mks (E := slotE) (q := a0.2.1.length) (z0 := ((((0, false) : Int × Bool) : Int × Bool))) (zc := [.int .i64 0, .bool false]) Tryz_ty24 (zcells_of (z := .agg #[.int .i64 0, .bool false]) kA) (fun _ => rfl) rfl rfl rfl oA oA ?_
 intro v7 c7 w7
 obtain ⟨A7, p7, rfl, m7, n7⟩ := w7.shape
 refine aA ?_
 refine nN (sR (mA ?_))
 refine fA underlying27 rfl sizeOf24 ?_
 refine R.ldH isAgg24 rfl rfl a2 rfl ?_
 obtain ⟨k11, y11, r11⟩ := Src.rdA (a5.mono b0)
 refine R.copyD (v := (sl A7 (List.replicate a0.2.1.length ((((0, false) : Int × Bool) : Int × Bool))) p7)) Tryz_ty24 rfl rfl rfl w7 .hd (r11 _) y11 (by first | (simp; done) | (simp; omega)) ?_
 intro a7 wm71
 refine nN (T.seq (T.draw k_2f kA ?_))
 refine vP 0 [1, 2, 3, 4, 5, 6, 7] rfl underlying27 rfl sizeOf3 ?_
 refine vA 1 [2, 3, 4, 5, 6, 7] rfl (fun _ _ h_ => R.ldH isAgg3 rfl rfl a2 rfl (TL.nil h_)) ?_
 refine vM 2 [3, 4, 5, 6, 7] rfl rfl cA ?_
 refine vP 3 [4, 5, 6, 7] rfl underlying27 rfl sizeOf25 ?_
 refine vA 4 [5, 6, 7] rfl (fun _ _ h_ => R.ldH isAgg25 rfl rfl a2 rfl (TL.nil h_)) ?_
 refine Plan.s1 5 [6, 7] kA kA rfl ?_
 refine TL.call [] rfl rfl rfl (k_86 _ _ a0.2.2 (a6.mono b0) bA) ?_
 intro v17 H17 L17 s17 q17
 obtain ⟨c17, rfl, w17⟩ := q17
 obtain ⟨a1, e17⟩ : ∃ x, x = a0.2.2 := ⟨_, rfl⟩
 rw [← e17] at w17
 obtain ⟨a3, a4, rfl, m17, n17⟩ := OwnS.shape w17
 have t17 : a1.length = a0.2.2.length := by rw [e17]
 refine TL.nil (Plan.e1 (s17) ?_)
 refine vA 6 [7] rfl (fun _ _ h_ => R.bld (cs := [.int .i64 (a0.1), sl A7 (List.replicate a0.2.1.length ((((0, false) : Int × Bool) : Int × Bool))) p7, sl a3 a1 a4]) rfl (fun _ => by kernel_rfl) (TL.nil h_)) ?_
 refine Plan.s1 7 [] kA kA rfl ?_
 refine stY (l := [.int .i64 (a0.1), sl A7 (List.replicate a0.2.1.length ((((0, false) : Int × Bool) : Int × Bool))) p7, sl a3 a1 a4]) (new := [.int .i64 (a0.1), sl A7 (List.replicate a0.2.1.length ((((0, false) : Int × Bool) : Int × Bool))) p7, sl a3 a1 a4]) (.tl (.tl .hd)) sizeOf27 rfl rfl ?_
 refine eB ?_
 refine Plan.done (Post.thnN ?_)
 refine T.has (Has.cons (.tl .hd) (Has.cons .hd (Has.cons .hd Has.nil))) ?_
 refine T.ret ?_
 have hM : k_a2 a0 = (a0.1, a0.2.1, a1) := by subst e17; rw [k_a2]
 exact finR1 (v := .agg #[.int .i64 (a0.1), sl A7 (List.replicate a0.2.1.length ((((0, false) : Int × Bool) : Int × Bool))) p7, sl a3 a1 a4]) [a7, c17] rfl (.cellA (cs := [.int .i64 (a0.1), sl A7 (List.replicate a0.2.1.length ((((0, false) : Int × Bool) : Int × Bool))) p7, sl a3 a1 a4]) (l := [.int .i64 (a0.1), sl A7 (List.replicate a0.2.1.length ((((0, false) : Int × Bool) : Int × Bool))) p7, sl a3 a1 a4]) isAgg27 sizeOf27 rfl (.tl (.tl .hd)) rfl rfl) (List.sublist_append_left ([a7, c17] : Own) _) ⟨sl A7 (List.replicate a0.2.1.length ((((0, false) : Int × Bool) : Int × Bool))) p7, sl a3 a1 a4, a7, c17, by first | rw [hM] | rfl, rfl, by rw [hM]; exact (OwnS.mono wm71 s17), by rw [hM]; exact w17⟩
theorem alloc_own_eq (a : Int × (List (Int × Bool)) × (List Int)) : k_a2 a = a := rfl
end Go.SX
namespace Go.SX
open Go
abbrev Sl2 := Int × Bool
abbrev Al := Int × List Sl2 × List Int
def useB (s : Sl2) : Bool := !s.2 && decide (s.1 < 7)
def useL : List Sl2 → Nat → List Int
  | [], _ => []
  | y :: ys, k => if useB y then ((k : Int) + 1) :: useL ys (k + 1) else useL ys (k + 1)
def aliveN (l : List Sl2) : Nat := l.countP (fun s => s.2)
theorem aliveN_le (l : List Sl2) : aliveN l ≤ l.length := List.countP_le_length
theorem usable_eq (s : Sl2) : k_72 s = useB s := by
  unfold k_72 useB
  cases s.2 <;> simp
theorem check_l3 : ∀ (l : List Sl2) (k : Nat) (acc : List Int), k_67 l k acc = acc ++ useL l k
  | [], k, acc => by simp [k_67, useL]
  | y :: ys, k, acc => by
    rw [k_67, usable_eq, useL]
    cases h : useB y with
    | true => rw [if_pos rfl, if_pos rfl, check_l3 ys]; simp
    | false => rw [if_neg (by decide), if_neg (by decide), check_l3 ys]
theorem living_l1 : ∀ (l : List Sl2) (k : Nat), (k_32 l k ()).length = aliveN l
  | [], k => rfl
  | y :: ys, k => by
    rw [k_32]
    cases h : y.2 with
    | true => rw [if_pos rfl, List.length_cons, living_l1 ys]; simp [aliveN, h]
    | false => rw [if_neg (by decide), living_l1 ys]; simp [aliveN, h]
theorem many_r1 : ∀ (l : List (Int × Sl2)) (n : Int), -2 ≤ n → n + l.length ≤ 4000000 → k_88 l n = n + l.length
  | [], n, _, _ => by simp [k_88]
  | y :: ys, n, h1, h2 => by
    simp only [List.length_cons] at h2
    rw [k_88, wrap_i64 (by omega) (by omega), many_r1 ys _ (by omega) (by omega)]
    simp only [List.length_cons]; omega
theorem many_eq {a : Al} (h : a.2.1.length ≤ 2000000) : k_83 a = (aliveN a.2.1 : Int) - 2 := by
  have h0 := aliveN_le a.2.1
  unfold k_83 k_7b k_65
  simp only [LR.seq, List.append_nil]
  have hl := living_l1 a.2.1 0
  rw [many_r1 _ _ (by omega) (by rw [hl]; omega), hl]
  omega
theorem all_slot (f : Int → Sl2 → Bool) : ∀ (l : List Sl2) (k : Nat), (k_4c f l k () = .go () ∧ ∀ i s, l[i]? = some s → f ((k + i : Nat) : Int) s = true) ∨ (k_4c f l k () = .ret false ∧ ∃ i s, l[i]? = some s ∧ f ((k + i : Nat) : Int) s = false)
  | [], k => .inl ⟨rfl, fun i s h => by simp at h⟩
  | y :: ys, k => by
    rw [k_4c]
    cases h : f (k : Int) y with
    | false => exact .inr ⟨by rw [Bool.not_false, if_pos rfl], 0, y, rfl, by simpa using h⟩
    | true =>
      rw [Bool.not_true, if_neg (by decide)]
      rcases all_slot f ys (k + 1) with ⟨h1, h2⟩ | ⟨h1, i, s, h2, h3⟩
      · refine .inl ⟨h1, fun i s hs => ?_⟩
        cases i with
        | zero => simp at hs; subst hs; simpa using h
        | succ i => rw [show k + (i + 1) = k + 1 + i by omega]; exact h2 i s (by simpa using hs)
      · exact .inr ⟨h1, i + 1, s, by simpa using h2, by rw [show k + (i + 1) = k + 1 + i by omega]; exact h3⟩
theorem all_slot_m (f : Int → Sl2 → Bool) (l : List Sl2) : k_58 l f = true ↔ ∀ i s, l[i]? = some s → f ((i : Nat) : Int) s = true := by
  unfold k_58
  rcases all_slot f l 0 with ⟨h1, h2⟩ | ⟨h1, i, s, h2, h3⟩
  · rw [h1, LR.on_go]; exact ⟨fun _ i s hs => by simpa using h2 i s hs, fun _ => rfl⟩
  · rw [h1, LR.on_ret]
    exact ⟨fun h => (by cases h), fun h => (by have := h i s h2; rw [Nat.zero_add] at h3; rw [h3] at this; cases this)⟩
structure Rt (a : Al) : Prop where
  m1 : 1 ≤ a.1
  m2 : a.1 ≤ 1048576
  n1 : 2 ≤ a.2.1.length
  n2 : (a.2.1.length : Int) ≤ a.1 + 2
  al : (aliveN a.2.1 : Int) - 2 ≤ a.1
  g : ∀ (i : Nat) (s : Sl2), a.2.1[i]? = some s → 0 ≤ s.1 ∧ s.1 ≤ 7 ∧ (i < 2 → s = (0, true))
  f : sortI a.2.2 = useL a.2.1 0
theorem check1_eq (i : Nat) (s : Sl2) : k_3d (i : Int) s = true ↔ 0 ≤ s.1 ∧ s.1 ≤ 7 ∧ (i < 2 → s = (0, true)) := by
  unfold k_3d
  by_cases h1 : 0 ≤ s.1
  · by_cases h2 : s.1 ≤ 7
    · by_cases h3 : (2 : Int) ≤ (i : Int)
      · simp only [h1, h2, h3, if_true]; simp; omega
      · simp only [h1, h2, h3, if_true, if_false, decide_eq_true_eq]; simp; omega
    · simp only [h1, h2, if_true, if_false]; simp
  · simp only [h1, if_false]; simp
theorem check_iff {a : Al} (hs : a.2.1.length ≤ 2000000) : (k_27 a = 0 ↔ Rt a) ∧ (k_27 a = 0 ∨ k_27 a = 120) := by
  unfold k_27
  simp only [LR.seq]
  rw [many_eq hs]
  by_cases h1 : 1 ≤ a.1
  rotate_left
  · rw [if_neg h1]; simp only [Bool.false_eq_true, if_false, Bool.not_false, if_true]; exact ⟨⟨fun h => by omega, fun h => absurd h.m1 h1⟩, .inr (by first | trivial | rfl)⟩
  by_cases h2 : a.1 ≤ 1048576
  rotate_left
  · rw [if_pos h1, if_neg h2]; simp only [Bool.false_eq_true, if_false, Bool.not_false, if_true]; exact ⟨⟨fun h => by omega, fun h => absurd h.m2 h2⟩, .inr (by first | trivial | rfl)⟩
  by_cases h3 : (2 : Int) ≤ (a.2.1.length : Int)
  rotate_left
  · rw [if_pos h1, if_pos h2, if_neg h3]; simp only [Bool.false_eq_true, if_false, Bool.not_false, if_true]; exact ⟨⟨fun h => by omega, fun h => absurd h.n1 (by omega)⟩, .inr (by first | trivial | rfl)⟩
  rw [wrap_i64 (x := a.1 + 2) (by omega) (by omega)]
  by_cases h4 : (a.2.1.length : Int) ≤ a.1 + 2
  rotate_left
  · rw [if_pos h1, if_pos h2, if_pos h3, if_neg h4]; simp only [Bool.false_eq_true, if_false, Bool.not_false, if_true]; exact ⟨⟨fun h => by omega, fun h => absurd h.n2 h4⟩, .inr (by first | trivial | rfl)⟩
  by_cases h5 : (aliveN a.2.1 : Int) - 2 ≤ a.1
  rotate_left
  · rw [if_pos h1, if_pos h2, if_pos h3, if_pos h4]; simp only [h5, decide_false, Bool.false_eq_true, if_false, Bool.not_false, if_true]; exact ⟨⟨fun h => by omega, fun h => absurd h.al h5⟩, .inr (by first | trivial | rfl)⟩
  rw [if_pos h1, if_pos h2, if_pos h3, if_pos h4]
  simp only [h5, decide_true, if_true]
  cases h6 : k_58 a.2.1 (fun z0 z1 => k_3d z0 z1) with
  | false =>
    rw [Bool.not_false, if_pos rfl]
    exact ⟨⟨fun h => by omega, fun h => by
      have := (all_slot_m (fun z0 z1 => k_3d z0 z1) a.2.1).2 (fun i s hi => (check1_eq i s).2 (h.g i s hi))
      rw [this] at h6; cases h6⟩, .inr (by first | trivial | rfl)⟩
  | true =>
    rw [Bool.not_true, if_neg (by decide), slices_Values_int_eq, slices_Sorted_int_eq, check_l3, List.nil_append]
    have hg : ∀ (i : Nat) (s : Sl2), a.2.1[i]? = some s → 0 ≤ s.1 ∧ s.1 ≤ 7 ∧ (i < 2 → s = (0, true)) := fun i s hi => (check1_eq i s).1 ((all_slot_m _ _).1 h6 i s hi)
    by_cases h7 : sortI a.2.2 = useL a.2.1 0
    · rw [if_neg (fun h => h h7)]; exact ⟨⟨fun _ => ⟨h1, h2, by omega, h4, h5, hg, h7⟩, fun _ => (by first | trivial | rfl)⟩, .inl (by first | trivial | rfl)⟩
    · rw [if_pos h7]; exact ⟨⟨fun h => by omega, fun h => absurd h.f h7⟩, .inr (by first | trivial | rfl)⟩
theorem useL_mem : ∀ (l : List Sl2) (k : Nat) (x : Int), x ∈ useL l k ↔ ∃ (i : Nat) (s : Sl2), l[i]? = some s ∧ useB s = true ∧ x = ((k + i : Nat) : Int) + 1
  | [], k, x => by simp [useL]
  | y :: ys, k, x => by
    have ih := useL_mem ys (k + 1) x
    have e : x ∈ useL (y :: ys) k ↔ (useB y = true ∧ x = (k : Int) + 1) ∨ x ∈ useL ys (k + 1) := by
      rw [useL]
      cases h : useB y <;> simp
    rw [e, ih]
    constructor
    · rintro (⟨h1, h2⟩ | ⟨i, s, h1, h2, h3⟩)
      · exact ⟨0, y, rfl, h1, by simpa using h2⟩
      · exact ⟨i + 1, s, by simpa using h1, h2, by rw [h3]; congr 2; omega⟩
    · rintro ⟨i, s, h1, h2, h3⟩
      cases i with
      | zero => simp at h1; subst h1; exact .inl ⟨h2, by simpa using h3⟩
      | succ i => exact .inr ⟨i, s, by simpa using h1, h2, by rw [h3]; congr 2; omega⟩
theorem useL_len : ∀ (l : List Sl2) (k : Nat), (useL l k).length ≤ l.length
  | [], k => by simp [useL]
  | y :: ys, k => by
    have := useL_len ys (k + 1)
    rw [useL]; split <;> simp <;> omega
theorem Rt.free {a : Al} (h : Rt a) {x : Int} : x ∈ a.2.2 ↔ ∃ (i : Nat) (s : Sl2), a.2.1[i]? = some s ∧ useB s = true ∧ x = (i : Int) + 1 := by
  rw [← (k_26 a.2.2).mem_iff, h.f, useL_mem]; simp only [Nat.zero_add]
theorem Rt.free_rng {a : Al} (h : Rt a) {x : Int} (hx : x ∈ a.2.2) : 1 ≤ x ∧ x ≤ a.2.1.length := by
  obtain ⟨i, s, h1, _, h2⟩ := h.free.1 hx
  have := (List.getElem?_eq_some_iff.1 h1).1
  omega
theorem Rt.flen {a : Al} (h : Rt a) : a.2.2.length ≤ a.2.1.length := by
  have h1 := (k_26 a.2.2).length_eq
  rw [h.f] at h1
  have := useL_len a.2.1 0
  omega
theorem alive_rng {a : Al} {x : Int} (h : k_59 a x = true) : 1 ≤ (k_1 x).1 ∧ (k_1 x).1 ≤ (a.2.1.length : Int) := by
  unfold k_59 at h
  split at h
  · cases h
  · rename_i h1
    have hk : kindG x = 1 := by omega
    simp only [LR.seq] at h
    split at h
    · rename_i h2; exact ⟨(kind1_idx hk).1, h2⟩
    · cases h
end Go.SX
namespace Go.SX
open Go Go.Proofs Go.Proofs.Tryz
def k_47 (a0 : Int × (List (Int × Bool)) × (List Int)) : (Int × (List (Int × Bool)) × (List Int)) × Int × Int :=
  if ((k_27 a0) : Int) ≠ 0 then ((((0, [], []) : Int × (List (Int × Bool)) × (List Int)), 0, (k_27 a0))) else (LR.seq ((decide (((k_83 a0) : Int) = a0.1)) : Bool) (fun sc1 => if sc1 = true then ((((0, [], []) : Int × (List (Int × Bool)) × (List Int)), 0, 6)) else (LR.seq (k_a2 a0) (fun r23 => LR.seq ((((r23.2.1.length : Int) + 1), (r23.2.2.length : Int)) : Int × Int) (fun sc2 => LR.on (if (0 : Int) < sc2.2 then (.go (((r23.2.2.getD (((sc2.2 - 1)).toNat) (0 : Int)), (r23.2.1.set ((((r23.2.2.getD (((sc2.2 - 1)).toNat) (0 : Int)) - 1)).toNat) (((IntKind.i64.wrap ((r23.2.1.getD ((((r23.2.2.getD (((sc2.2 - 1)).toNat) (0 : Int)) - 1)).toNat) (((0, false) : Int × Bool) : Int × Bool)).1 + 1)), true))), r23.1, (r23.2.1.set ((((r23.2.2.getD (((sc2.2 - 1)).toNat) (0 : Int)) - 1)).toNat) (((IntKind.i64.wrap ((r23.2.1.getD ((((r23.2.2.getD (((sc2.2 - 1)).toNat) (0 : Int)) - 1)).toNat) (((0, false) : Int × Bool) : Int × Bool)).1 + 1)), true))), (r23.2.2.take (((sc2.2 - 1)).toNat))))) else (if ((IntKind.i64.wrap (r23.1 + 2)) : Int) < sc2.1 then (.ret ((((0, [], []) : Int × (List (Int × Bool)) × (List Int)), 0, 121))) else (.go ((sc2.1, r23.2.1, r23.1, (r23.2.1 ++ [((0, true) : Int × Bool)]), r23.2.2)))) : LR ((Int × (List (Int × Bool)) × (List Int)) × Int × Int) (Int × (List (Int × Bool)) × Int × (List (Int × Bool)) × (List Int))) (fun r => r) (fun sc3 => LR.seq (k_56 sc3.1 (sc3.2.2.2.1.getD (((sc3.1 - 1)).toNat) (((0, false) : Int × Bool) : Int × Bool)).1) (fun r84 => ((sc3.2.2.1, sc3.2.2.2.1, sc3.2.2.2.2), r84.1, r84.2))))))))
theorem alloc_Take_c (H : Heap) {tG1 : TypeId} (hG1 : gA H 1 tG1) (a0 : Int × (List (Int × Bool)) × (List Int)) (g6 : Value) (d3 : RdS slotE H g6 a0.2.1) (g7 : Value) (d4 : RdS (intE .i64) H g7 a0.2.2) (hs : a0.2.1.length ≤ 2000000) (hf : a0.2.2.length ≤ 2000000) : Fc Tryz.prog (fnv 168) [.agg #[.int .i64 a0.1, g6, g7]] H [] (fun v' H' L' => ∃ h9 i0 i1 i2, v' = .tuple #[.agg #[.int .i64 (k_47 a0).1.1, h9, i0], .int .u64 (k_47 a0).2.1, .int .i64 (k_47 a0).2.2] ∧ L' = [i1, i2] ∧ OwnS slotE 110 H' h9 (k_47 a0).1.2.1 i1 ∧ OwnS (intE .i64) 3 H' i0 (k_47 a0).1.2.2 i2) := by
 refine Fc.of_body (N := 90) func168 rfl kA rfl rfl ?_
 intro w0
 obtain ⟨c1, c2, rfl, hca0_1, hda0_1, d3⟩ := d3.shape
 obtain ⟨c3, c4, rfl, hca0_2, hda0_2, d4⟩ := d4.shape
 refine sR (R.box rfl cA ?_)
 intro b1
 refine R.alloc zeroValue27 rfl ?_
 intro b2
 refine aA ?_
 refine aA ?_
 refine nN (T.seq (sR (R.ldX (cs := [.int .i64 (a0.1), .slice c1 a0.2.1.length c2, .slice c3 a0.2.2.length c4]) (l := [.int .i64 (a0.1), .slice c1 a0.2.1.length c2, .slice c3 a0.2.2.length c4]) isAgg27 sizeOf27 rfl rfl (.tl .hd) rfl rfl ?_)))
 refine R.callv rfl rfl rfl (k_b4 _ hG1 a0 _ d3 _ d4 bA bA) ?_
 refine aA ?_
 refine nN (sR (mA ?_))
 refine R.neq rfl rfl rfl ?_
 refine nN (T.condD rfl (fun e7 => ?_) (fun e7 => ?_))
 refine T.set 13 (.bool true) (congrArg Value.bool (decide_eq_true e7)) ?_
 refine sR (R.bld (cs := [.int .i64 0, .slice none 0 0, .slice none 0 0]) rfl (fun _ => by kernel_rfl) ?_)
 refine mA ?_
 refine stY (l := [.int .i64 0, .slice none 0 0, .slice none 0 0]) (new := [.int .i64 0, .slice none 0 0, .slice none 0 0]) .hd sizeOf27 rfl rfl ?_
 refine aA ?_
 refine aA ?_
 refine nN (T.has (Has.none (Has.none (Has.cons .hd Has.nil))) ?_)
 refine T.ret (Post.thnR ?_)
 have hM : k_47 a0 = (((0, [], []) : Int × (List (Int × Bool)) × (List Int)), 0, (k_27 a0)) := by rw [k_47, if_pos e7]
 exact finR3 (v := .agg #[.int .i64 0, .slice none 0 0, .slice none 0 0]) (v' := .int .u64 0) (v'' := .int .i64 (k_27 a0)) [[], []] rfl (.cellA (cs := [.int .i64 0, .slice none 0 0, .slice none 0 0]) (l := [.int .i64 0, .slice none 0 0, .slice none 0 0]) isAgg27 sizeOf27 rfl (.tl (.tl .hd)) rfl rfl) (.tmp rfl) (.tmp rfl) (List.sublist_append_left ([[], []] : Own) _) ⟨.slice none 0 0, .slice none 0 0, [], [], by first | rw [hM] | rfl, rfl, by rw [hM]; exact OwnS.nil, by rw [hM]; exact OwnS.nil⟩
 refine T.set 13 (.bool false) (congrArg Value.bool (decide_eq_false e7)) ?_
 have hck := (check_iff hs).1.1 oA
 have hfl := hck.flen
 have hn2 := hck.n2
 have hm2 := hck.m2
 refine T.skip (Post.thnN (T.seq ?_))
 refine T.seq (T.cutK (ι := Bool) (fun e6 H' L' ds' => Has L' [[(b2, .cells #[.int .i64 0, .slice none 0 0, .slice none 0 0] 27)], [(b1, .cells #[.int .i64 (a0.1), .slice c1 a0.2.1.length c2, .slice c3 a0.2.2.length c4] 27)]] ∧ ((decide (((k_83 a0) : Int) = a0.1)) : Bool) = e6) (fun e6 => [(1, .pointer (some ⟨b1, 0, none⟩)), (2, .pointer (some ⟨b2, 0, none⟩)), (20, .bool (e6))]) ?_ ?_)
 refine T.draw k_2f kA ?_
 refine vP 2 [0, 1, 3, 4] rfl underlying27 rfl sizeOf3 ?_
 refine Plan.s2 0 3 [1, 3, 4] [0, 1, 4] kA kA kA rfl rfl ?_ ?_
 refine R.ldX (cs := [.int .i64 (a0.1), sl c1 a0.2.1 c2, sl c3 a0.2.2 c4]) (l := [.int .i64 (a0.1), sl c1 a0.2.1 c2, sl c3 a0.2.2 c4]) isAgg27 sizeOf27 rfl rfl (.tl .hd) rfl rfl ?_
 refine eA ?_
 refine vA 1 [3, 4] rfl (fun _ _ h_ => R.callv rfl rfl rfl (alloc_many_c _ a0 _ d3 _ d4) (TL.nil h_)) ?_
 refine Plan.s1 3 [4] kA kA rfl ?_
 refine R.ld isAgg3 rfl rfl (.tl .hd) rfl ?_
 refine eA ?_
 rotate_left
 refine R.ld isAgg3 rfl rfl (.tl .hd) rfl ?_
 refine eA ?_
 refine Plan.s1 0 [1, 4] kA kA rfl ?_
 refine R.ldX (cs := [.int .i64 (a0.1), sl c1 a0.2.1 c2, sl c3 a0.2.2 c4]) (l := [.int .i64 (a0.1), sl c1 a0.2.1 c2, sl c3 a0.2.2 c4]) isAgg27 sizeOf27 rfl rfl (.tl .hd) rfl rfl ?_
 refine eA ?_
 refine vA 1 [4] rfl (fun _ _ h_ => R.callv rfl rfl rfl (alloc_many_c _ a0 _ d3 _ d4) (TL.nil h_)) ?_
 rotate_left
 intro e6 σ_c1 H_c1 L_c1 ds_c1 g2 i6
 obtain ⟨hLc1, e8⟩ := i6
 refine T.has hLc1 ?_
 refine T.cond rfl (fun e2 => ?_) (fun e2 => ?_)
 refine T.set 20 (.bool true) (congrArg Value.bool e2) ?_
 have g3 := e8.trans e2
 try simp only [or_f, or_t, and_f, and_t, decide_eq_true_eq, decide_eq_false_iff_not, Bool.not_eq_true'] at g3
 refine sR (R.bld (cs := [.int .i64 0, .slice none 0 0, .slice none 0 0]) rfl (fun _ => by kernel_rfl) ?_)
 refine stY (l := [.int .i64 0, .slice none 0 0, .slice none 0 0]) (new := [.int .i64 0, .slice none 0 0, .slice none 0 0]) .hd sizeOf27 rfl rfl ?_
 refine aA ?_
 refine aA ?_
 refine nN (T.has (Has.none (Has.none (Has.cons .hd Has.nil))) ?_)
 refine T.ret (Post.thnR ?_)
 have hM : k_47 a0 = (((0, [], []) : Int × (List (Int × Bool)) × (List Int)), 0, 6) := by rw [k_47, if_neg e7, e8, LR.seq_go, if_t e2]
 exact finR3 (v := .agg #[.int .i64 0, .slice none 0 0, .slice none 0 0]) (v' := .int .u64 0) (v'' := .int .i64 6) [[], []] rfl (.cellA (cs := [.int .i64 0, .slice none 0 0, .slice none 0 0]) (l := [.int .i64 0, .slice none 0 0, .slice none 0 0]) isAgg27 sizeOf27 rfl (.tl (.tl .hd)) rfl rfl) (.tmp rfl) (.tmp rfl) (List.sublist_append_left ([[], []] : Own) _) ⟨.slice none 0 0, .slice none 0 0, [], [], by first | rw [hM] | rfl, rfl, by rw [hM]; exact OwnS.nil, by rw [hM]; exact OwnS.nil⟩
 refine T.set 20 (.bool false) (congrArg Value.bool e2) ?_
 have g3 := e8.trans e2
 try simp only [or_f, or_t, and_f, and_t, decide_eq_true_eq, decide_eq_false_iff_not, Bool.not_eq_true'] at g3
 refine T.skip (Post.thnN (sR ?_))
 refine R.ldX (cs := [.int .i64 (a0.1), sl c1 a0.2.1 c2, sl c3 a0.2.2 c4]) (l := [.int .i64 (a0.1), sl c1 a0.2.1 c2, sl c3 a0.2.2 c4]) isAgg27 sizeOf27 rfl rfl (.tl .hd) rfl rfl ?_
 obtain ⟨a1, f6⟩ : ∃ r, r = (k_a2 a0) := ⟨_, rfl⟩
 refine TL.call [] rfl rfl rfl (alloc_own_c _ a0 _ (d3.mono g2) _ (d4.mono g2) bA bA) ?_
 intro v23 H23 L23 s23 e9
 rw [← f6] at e9
 obtain ⟨j2, j3, f0, c8, rfl, rfl, a6, d5⟩ := e9
 obtain ⟨a7, a8, rfl, j4, j5⟩ := OwnS.shape a6
 obtain ⟨c9, d0, rfl, j6, j7⟩ := OwnS.shape d5
 have e9 := f6.trans (alloc_own_eq _)
 have ta23 := congrArg (fun q => q.2.1.length) e9
 have tb23 := congrArg (fun q => q.2.2.length) e9
 try dsimp only at ta23 tb23
 refine stY (l := [.int .i64 (a1.1), sl a7 a1.2.1 a8, sl c9 a1.2.2 d0]) (new := [.int .i64 (a1.1), sl a7 a1.2.1 a8, sl c9 a1.2.2 d0]) (.tl (.tl (.tl .hd))) sizeOf27 rfl rfl ?_
 refine nN (T.seq (T.cutK (ι := Int × Int) (fun ⟨d2, a9⟩ H' L' ds' => Has L' [f0, c8, [(b2, .cells #[.int .i64 0, .slice none 0 0, .slice none 0 0] 27)], [(b1, .cells #[.int .i64 (a1.1), .slice a7 a1.2.1.length a8, .slice c9 a1.2.2.length d0] 27)]] ∧ d2 = (a1.2.1.length : Int) + 1 ∧ a9 = (a1.2.2.length : Int) ∧ ((((a1.2.1.length : Int) + 1), (a1.2.2.length : Int)) : Int × Int) = (d2, a9)) (fun ⟨d2, a9⟩ => [(1, .pointer (some ⟨b1, 0, none⟩)), (2, .pointer (some ⟨b2, 0, none⟩)), (6, .int .i64 d2), (7, .int .i64 a9)]) ?_ ?_))
 refine T.draw k_2f kA ?_
 refine vP 0 [1, 2, 3, 4, 5, 6, 7, 8] rfl underlying27 rfl sizeOf24 ?_
 refine vP 4 [1, 2, 3, 5, 6, 7, 8] rfl underlying27 rfl sizeOf25 ?_
 refine Plan.s2 1 5 [2, 3, 5, 6, 7, 8] [1, 2, 3, 6, 7, 8] kA kA kA rfl rfl ?_ ?_
 refine R.ld isAgg24 rfl rfl (.tl (.tl (.tl .hd))) rfl ?_
 refine eA ?_
 refine vA 2 [3, 5, 6, 7, 8] rfl (fun _ _ h_ => R.len underlying24 rfl rfl (TL.nil h_)) ?_
 refine vA 3 [5, 6, 7, 8] rfl (fun _ _ h_ => R.addI rfl rfl rfl oA (TL.nil h_)) ?_
 refine vA 7 [5, 6, 8] rfl (fun _ _ h_ => aA (TL.nil h_)) ?_
 refine Plan.s1 5 [6, 8] kA kA rfl ?_
 refine R.ld isAgg25 rfl rfl (.tl (.tl (.tl .hd))) rfl ?_
 refine eA ?_
 refine vA 6 [8] rfl (fun _ _ h_ => R.len underlying25 rfl rfl (TL.nil h_)) ?_
 rotate_left
 refine R.ld isAgg25 rfl rfl (.tl (.tl (.tl .hd))) rfl ?_
 refine eA ?_
 refine vA 6 [1, 2, 3, 7, 8] rfl (fun _ _ h_ => R.len underlying25 rfl rfl (TL.nil h_)) ?_
 refine Plan.s1 1 [2, 3, 7, 8] kA kA rfl ?_
 refine R.ld isAgg24 rfl rfl (.tl (.tl (.tl .hd))) rfl ?_
 refine eA ?_
 refine vA 2 [3, 7, 8] rfl (fun _ _ h_ => R.len underlying24 rfl rfl (TL.nil h_)) ?_
 refine vA 3 [7, 8] rfl (fun _ _ h_ => R.addI rfl rfl rfl oA (TL.nil h_)) ?_
 refine vA 7 [8] rfl (fun _ _ h_ => aA (TL.nil h_)) ?_
 rotate_left
 intro ⟨d2, a9⟩ σ_c2 H_c2 L_c2 ds_c2 b7 i7
 obtain ⟨hLc2, hBc2_0, hBc2_1, i3⟩ := i7
 refine T.has hLc2 ?_
 refine T.seq (T.cutK (ι := Int × (List (Int × Bool)) × Chunk × Int × Value × (List (Int × Bool)) × Chunk × Value × (List Int) × Chunk) (fun ⟨c6, c5, d1, a4, d6, a2, b8, d7, a3, b9⟩ H' L' ds' => Has L' [[(b2, .cells #[.int .i64 0, .slice none 0 0, .slice none 0 0] 27)], [(b1, .cells #[.int .i64 a4, d6, d7] 27)], b8, b9] ∧ OwnS slotE 110 H' (.slice a7 a1.2.1.length a8) c5 d1 ∧ OwnS slotE 110 H' d6 a2 b8 ∧ OwnS (intE .i64) 3 H' d7 a3 b9 ∧ (1 ≤ c6 ∧ c6 ≤ a2.length) ∧ a2.length ≤ 2000000 ∧ (if (0 : Int) < a9 then (.go (((a1.2.2.getD (((a9 - 1)).toNat) (0 : Int)), (a1.2.1.set ((((a1.2.2.getD (((a9 - 1)).toNat) (0 : Int)) - 1)).toNat) (((IntKind.i64.wrap ((a1.2.1.getD ((((a1.2.2.getD (((a9 - 1)).toNat) (0 : Int)) - 1)).toNat) (((0, false) : Int × Bool) : Int × Bool)).1 + 1)), true))), a1.1, (a1.2.1.set ((((a1.2.2.getD (((a9 - 1)).toNat) (0 : Int)) - 1)).toNat) (((IntKind.i64.wrap ((a1.2.1.getD ((((a1.2.2.getD (((a9 - 1)).toNat) (0 : Int)) - 1)).toNat) (((0, false) : Int × Bool) : Int × Bool)).1 + 1)), true))), (a1.2.2.take (((a9 - 1)).toNat))))) else (if ((IntKind.i64.wrap (a1.1 + 2)) : Int) < d2 then (.ret ((((0, [], []) : Int × (List (Int × Bool)) × (List Int)), 0, 121))) else (.go ((d2, a1.2.1, a1.1, (a1.2.1 ++ [((0, true) : Int × Bool)]), a1.2.2)))) : LR ((Int × (List (Int × Bool)) × (List Int)) × Int × Int) (Int × (List (Int × Bool)) × Int × (List (Int × Bool)) × (List Int))) = .go (c6, c5, a4, a2, a3)) (fun ⟨c6, c5, d1, a4, d6, a2, b8, d7, a3, b9⟩ => [(1, .pointer (some ⟨b1, 0, none⟩)), (2, .pointer (some ⟨b2, 0, none⟩)), (6, .int .i64 c6)]) ?_ ?_)
 refine T.block (sR (mA ?_))
 refine R.gtr rfl rfl rfl ?_
 refine aA ?_
 refine nN (T.condD rfl (fun e3 => ?_) (fun e3 => ?_))
 refine T.set 37 (.bool true) (congrArg Value.bool (decide_eq_true e3)) ?_
 refine sR (fA underlying27 rfl sizeOf25 ?_)
 refine R.ld isAgg25 rfl rfl (.tl (.tl (.tl .hd))) rfl ?_
 refine mA ?_
 refine R.subI rfl rfl rfl oA ?_
 have g4 : ((a9 - 1)).toNat < a1.2.2.length := bA
 obtain ⟨a5, e44, h44⟩ : ∃ y, y = (a1.2.2.getD (((a9 - 1)).toNat) (0 : Int)) ∧ a1.2.2[((a9 - 1)).toNat]? = some y := ⟨_, rfl, k_46 (by first | exact g4 | simpa using g4 | (simp only [List.length_set]; omega) | omega | (rw [(k_26 _).length_eq]; exact g4))⟩
 obtain ⟨b44, u44, cs44, l44, f44, j44, i44, g44, k44⟩ := OwnS.elem (OwnS.mono d5 b7) h44
 obtain rfl : l44 = [.int .i64 a5] := g44
 refine R.ixp (sz := ((intE .i64)).size) underlying25 sizeOf3 rfl rfl rfl bA i44 ?_
 refine R.ld isAgg3 rfl rfl (by rw [← f44]; exact (.tl .hd)) (k44 0 _ rfl) ?_
 refine aA ?_
 refine nN (sR (fA underlying27 rfl sizeOf25 ?_))
 refine R.ld isAgg25 rfl rfl (.tl (.tl (.tl .hd))) rfl ?_
 refine mA ?_
 refine R.subI rfl rfl rfl oA ?_
 refine mA ?_
 refine R.subI rfl rfl rfl oA ?_
 have f1 := OwnS.takeM (OwnS.mono d5 b7) (i := ((a9 - 1)).toNat) (m := ((a9 - 1)).toNat) (by first | omega | (simp; omega)) (by first | omega | (simp; omega)) (by first | omega | (simp; omega))
 obtain ⟨d8, f7⟩ : ∃ x, x = (a1.2.2.take (((a9 - 1)).toNat)) := ⟨_, rfl⟩
 rw [← f7] at f1
 obtain ⟨f2, f3, g8, m52, n52⟩ := OwnS.shape f1
 have t52 : d8.length = ((a9 - 1)).toNat := by rw [f7, List.length_take]; omega
 refine R.sHM underlying25 sizeOf3 rfl rfl rfl rfl (by first | omega | (simp; omega)) (by first | omega | (simp; omega)) (by first | omega | (simp; omega))  ?_
 refine TL.set 52 (.slice f2 d8.length f3) (by first | exact g8 | (rw [← g8]; simp; done) | (rw [← g8]; rfl)) ?_
 rw [g8] at f1
 refine fA underlying27 rfl sizeOf25 ?_
 refine stY (l := [sl f2 d8 f3]) (new := [.int .i64 (a1.1), sl a7 a1.2.1 a8, sl f2 d8 f3]) (.tl (.tl (.tl .hd))) sizeOf25 rfl (cells1 rfl) ?_
 refine nN ?_
 have hidx := hck.free_rng (x := a5) (by have := List.mem_of_getElem? h44; rw [e9] at this; exact this)
 refine T.draw k_2f kA ?_
 refine vP 0 [1, 2, 3, 4, 5, 6, 7, 8, 9, 10, 11, 12, 13, 14] rfl underlying27 rfl sizeOf24 ?_
 refine vM 2 [1, 3, 4, 5, 6, 7, 8, 9, 10, 11, 12, 13, 14] rfl rfl cA ?_
 refine vA 3 [1, 4, 5, 6, 7, 8, 9, 10, 11, 12, 13, 14] rfl (fun _ _ h_ => R.subI rfl rfl rfl oA (TL.nil h_)) ?_
 refine vP 4 [1, 5, 6, 7, 8, 9, 10, 11, 12, 13, 14] rfl underlying27 rfl sizeOf24 ?_
 refine vM 6 [1, 5, 7, 8, 9, 10, 11, 12, 13, 14] rfl rfl cA ?_
 refine vA 7 [1, 5, 8, 9, 10, 11, 12, 13, 14] rfl (fun _ _ h_ => R.subI rfl rfl rfl oA (TL.nil h_)) ?_
 refine Plan.s2 1 5 [5, 8, 9, 10, 11, 12, 13, 14] [1, 8, 9, 10, 11, 12, 13, 14] kA kA kA rfl rfl ?_ ?_
 refine R.ld isAgg24 rfl rfl (.tl (.tl (.tl .hd))) rfl ?_
 refine eA ?_
 refine Plan.s1 5 [8, 9, 10, 11, 12, 13, 14] kA kA rfl ?_
 refine R.ld isAgg24 rfl rfl (.tl (.tl (.tl .hd))) rfl ?_
 refine eA ?_
 have d9 : ((a5 - 1)).toNat < a1.2.1.length := bA
 obtain ⟨b0, g9, h62⟩ : ∃ y, y = (a1.2.1.getD (((a5 - 1)).toNat) (((0, false) : Int × Bool) : Int × Bool)) ∧ a1.2.1[((a5 - 1)).toNat]? = some y := ⟨_, rfl, k_46 (by first | exact d9 | simpa using d9 | (simp only [List.length_set]; omega) | omega | (rw [(k_26 _).length_eq]; exact d9))⟩
 obtain ⟨b62, u62, cs62, l62, h0, j62, i62, g62, h1⟩ := OwnS.elem (OwnS.mono a6 b7) h62
 obtain rfl : l62 = [.int .i64 (b0.1), .bool (b0.2)] := g62
 refine vA 8 [9, 10, 11, 12, 13, 14] rfl (fun _ _ h_ => R.ixp (sz := (slotE).size) underlying24 sizeOf110 rfl rfl rfl bA i62 (TL.nil h_)) ?_
 refine vP 9 [10, 11, 12, 13, 14] rfl underlying110 rfl sizeOf3 ?_
 refine Plan.s1 10 [11, 12, 13, 14] kA kA rfl ?_
 refine R.ld isAgg3 rfl rfl (by rw [← h0]; exact .hd) (h1 0 _ rfl) ?_
 refine eA ?_
 refine vA 11 [12, 13, 14] rfl (fun _ _ h_ => R.add rfl rfl rfl (TL.nil h_)) ?_
 refine vA 12 [13, 14] rfl (fun _ _ h_ => R.bld (cs := [.int .i64 (IntKind.i64.wrap (b0.1 + 1)), .bool true]) rfl (fun _ => by kernel_rfl) (TL.nil h_)) ?_
 have c7 : ((a5 - 1)).toNat < a1.2.1.length := bA
 obtain ⟨c0, f8, e4⟩ : ∃ y, y = (a1.2.1.getD (((a5 - 1)).toNat) (((0, false) : Int × Bool) : Int × Bool)) ∧ a1.2.1[((a5 - 1)).toNat]? = some y := ⟨_, rfl, k_46 (by first | exact c7 | simpa using c7 | (simp only [List.length_set]; omega) | omega | (rw [(k_26 _).length_eq]; exact c7))⟩
 obtain ⟨b67, u67, i4, f9, f67, j67, e5, g0, k67⟩ := OwnS.elem (OwnS.mono a6 b7) e4
 obtain rfl : f9 = [.int .i64 (c0.1), .bool (c0.2)] := g0
 refine vA 13 [14] rfl (fun _ _ h_ => R.ixp (sz := (slotE).size) underlying24 sizeOf110 rfl rfl rfl bA e5 (TL.nil h_)) ?_
 refine Plan.s1 14 [] kA kA rfl ?_
 refine R.stEF (E := slotE) (e := 110) (v := (sl a7 a1.2.1 a8)) (m := [.int .i64 (IntKind.i64.wrap (b0.1 + 1)), .bool true]) (o := 0) (y := c0) (y' := ((IntKind.i64.wrap (b0.1 + 1)), true)) (j := ((a5 - 1)).toNat) sizeOf110 rfl (OwnS.mono a6 b7) .hd e5 rfl rfl rfl (k_3 rfl) e4 (by show 0 + 2 ≤ 2; decide) (fun l hl => by have e0 : l = [.int .i64 (c0.1), .bool (c0.2)] := hl; subst e0; exact rfl) ?_
 intro h2 h3
 refine eB ?_
 refine Plan.done (Post.blkN ?_)
 refine id (Post.thnN ?_)
 exact ⟨(a5, (a1.2.1.set (((a5 - 1)).toNat) (((IntKind.i64.wrap (b0.1 + 1)), true))), h2, a1.1, sl a7 a1.2.1 a8, (a1.2.1.set (((a5 - 1)).toNat) (((IntKind.i64.wrap (b0.1 + 1)), true))), h2, sl f2 d8 f3, d8, c8), HLe.refl _, ⟨(Has.cons (.tl (.tl .hd)) (Has.cons (.tl (.tl .hd)) (Has.cons .hd (Has.cons .hd Has.nil)))), h3, h3, f1, bA, bA, (by subst f8; subst g9; subst f7; subst e44; rw [if_pos e3])⟩, rfl, rfl, rfl, trivial⟩
 refine R.ld isAgg24 rfl rfl (.tl (.tl (.tl .hd))) rfl ?_
 refine eA ?_
 have d9 : ((a5 - 1)).toNat < a1.2.1.length := bA
 obtain ⟨b0, g9, h62⟩ : ∃ y, y = (a1.2.1.getD (((a5 - 1)).toNat) (((0, false) : Int × Bool) : Int × Bool)) ∧ a1.2.1[((a5 - 1)).toNat]? = some y := ⟨_, rfl, k_46 (by first | exact d9 | simpa using d9 | (simp only [List.length_set]; omega) | omega | (rw [(k_26 _).length_eq]; exact d9))⟩
 obtain ⟨b62, u62, cs62, l62, h0, j62, i62, g62, h1⟩ := OwnS.elem (OwnS.mono a6 b7) h62
 obtain rfl : l62 = [.int .i64 (b0.1), .bool (b0.2)] := g62
 refine vA 8 [1, 9, 10, 11, 12, 13, 14] rfl (fun _ _ h_ => R.ixp (sz := (slotE).size) underlying24 sizeOf110 rfl rfl rfl bA i62 (TL.nil h_)) ?_
 refine vP 9 [1, 10, 11, 12, 13, 14] rfl underlying110 rfl sizeOf3 ?_
 refine Plan.s2 1 10 [10, 11, 12, 13, 14] [1, 11, 12, 13, 14] kA kA kA rfl rfl ?_ ?_
 refine R.ld isAgg24 rfl rfl (.tl (.tl (.tl .hd))) rfl ?_
 refine eA ?_
 refine Plan.s1 10 [11, 12, 13, 14] kA kA rfl ?_
 refine R.ld isAgg3 rfl rfl (by rw [← h0]; exact .hd) (h1 0 _ rfl) ?_
 refine eA ?_
 refine vA 11 [12, 13, 14] rfl (fun _ _ h_ => R.add rfl rfl rfl (TL.nil h_)) ?_
 refine vA 12 [13, 14] rfl (fun _ _ h_ => R.bld (cs := [.int .i64 (IntKind.i64.wrap (b0.1 + 1)), .bool true]) rfl (fun _ => by kernel_rfl) (TL.nil h_)) ?_
 have c7 : ((a5 - 1)).toNat < a1.2.1.length := bA
 obtain ⟨c0, f8, e4⟩ : ∃ y, y = (a1.2.1.getD (((a5 - 1)).toNat) (((0, false) : Int × Bool) : Int × Bool)) ∧ a1.2.1[((a5 - 1)).toNat]? = some y := ⟨_, rfl, k_46 (by first | exact c7 | simpa using c7 | (simp only [List.length_set]; omega) | omega | (rw [(k_26 _).length_eq]; exact c7))⟩
 obtain ⟨b67, u67, i4, f9, f67, j67, e5, g0, k67⟩ := OwnS.elem (OwnS.mono a6 b7) e4
 obtain rfl : f9 = [.int .i64 (c0.1), .bool (c0.2)] := g0
 refine vA 13 [14] rfl (fun _ _ h_ => R.ixp (sz := (slotE).size) underlying24 sizeOf110 rfl rfl rfl bA e5 (TL.nil h_)) ?_
 refine Plan.s1 14 [] kA kA rfl ?_
 refine R.stEF (E := slotE) (e := 110) (v := (sl a7 a1.2.1 a8)) (m := [.int .i64 (IntKind.i64.wrap (b0.1 + 1)), .bool true]) (o := 0) (y := c0) (y' := ((IntKind.i64.wrap (b0.1 + 1)), true)) (j := ((a5 - 1)).toNat) sizeOf110 rfl (OwnS.mono a6 b7) .hd e5 rfl rfl rfl (k_3 rfl) e4 (by show 0 + 2 ≤ 2; decide) (fun l hl => by have e0 : l = [.int .i64 (c0.1), .bool (c0.2)] := hl; subst e0; exact rfl) ?_
 intro h4 h5
 refine eB ?_
 refine Plan.done (Post.blkN ?_)
 refine id (Post.thnN ?_)
 exact ⟨(a5, (a1.2.1.set (((a5 - 1)).toNat) (((IntKind.i64.wrap (b0.1 + 1)), true))), h4, a1.1, sl a7 a1.2.1 a8, (a1.2.1.set (((a5 - 1)).toNat) (((IntKind.i64.wrap (b0.1 + 1)), true))), h4, sl f2 d8 f3, d8, c8), HLe.refl _, ⟨(Has.cons (.tl (.tl .hd)) (Has.cons (.tl (.tl .hd)) (Has.cons .hd (Has.cons .hd Has.nil)))), h5, h5, f1, bA, bA, (by subst f8; subst g9; subst f7; subst e44; rw [if_pos e3])⟩, rfl, rfl, rfl, trivial⟩
 refine R.ld isAgg3 rfl rfl (by rw [← h0]; exact .hd) (h1 0 _ rfl) ?_
 refine eA ?_
 refine vA 11 [1, 12, 13, 14] rfl (fun _ _ h_ => R.add rfl rfl rfl (TL.nil h_)) ?_
 refine vA 12 [1, 13, 14] rfl (fun _ _ h_ => R.bld (cs := [.int .i64 (IntKind.i64.wrap (b0.1 + 1)), .bool true]) rfl (fun _ => by kernel_rfl) (TL.nil h_)) ?_
 refine Plan.s1 1 [13, 14] kA kA rfl ?_
 refine R.ld isAgg24 rfl rfl (.tl (.tl (.tl .hd))) rfl ?_
 refine eA ?_
 have c7 : ((a5 - 1)).toNat < a1.2.1.length := bA
 obtain ⟨c0, f8, e4⟩ : ∃ y, y = (a1.2.1.getD (((a5 - 1)).toNat) (((0, false) : Int × Bool) : Int × Bool)) ∧ a1.2.1[((a5 - 1)).toNat]? = some y := ⟨_, rfl, k_46 (by first | exact c7 | simpa using c7 | (simp only [List.length_set]; omega) | omega | (rw [(k_26 _).length_eq]; exact c7))⟩
 obtain ⟨b67, u67, i4, f9, f67, j67, e5, g0, k67⟩ := OwnS.elem (OwnS.mono a6 b7) e4
 obtain rfl : f9 = [.int .i64 (c0.1), .bool (c0.2)] := g0
 refine vA 13 [14] rfl (fun _ _ h_ => R.ixp (sz := (slotE).size) underlying24 sizeOf110 rfl rfl rfl bA e5 (TL.nil h_)) ?_
 refine Plan.s1 14 [] kA kA rfl ?_
 refine R.stEF (E := slotE) (e := 110) (v := (sl a7 a1.2.1 a8)) (m := [.int .i64 (IntKind.i64.wrap (b0.1 + 1)), .bool true]) (o := 0) (y := c0) (y' := ((IntKind.i64.wrap (b0.1 + 1)), true)) (j := ((a5 - 1)).toNat) sizeOf110 rfl (OwnS.mono a6 b7) .hd e5 rfl rfl rfl (k_3 rfl) e4 (by show 0 + 2 ≤ 2; decide) (fun l hl => by have e0 : l = [.int .i64 (c0.1), .bool (c0.2)] := hl; subst e0; exact rfl) ?_
 intro h6 h7
 refine eB ?_
 refine Plan.done (Post.blkN ?_)
 refine id (Post.thnN ?_)
 exact ⟨(a5, (a1.2.1.set (((a5 - 1)).toNat) (((IntKind.i64.wrap (b0.1 + 1)), true))), h6, a1.1, sl a7 a1.2.1 a8, (a1.2.1.set (((a5 - 1)).toNat) (((IntKind.i64.wrap (b0.1 + 1)), true))), h6, sl f2 d8 f3, d8, c8), HLe.refl _, ⟨(Has.cons (.tl (.tl .hd)) (Has.cons (.tl (.tl .hd)) (Has.cons .hd (Has.cons .hd Has.nil)))), h7, h7, f1, bA, bA, (by subst f8; subst g9; subst f7; subst e44; rw [if_pos e3])⟩, rfl, rfl, rfl, trivial⟩
 refine T.set 37 (.bool false) (congrArg Value.bool (decide_eq_false e3)) ?_
 refine sR (mA ?_)
 refine fA underlying27 rfl sizeOf3 ?_
 refine R.ld isAgg3 rfl rfl (.tl (.tl (.tl .hd))) rfl ?_
 refine R.add rfl rfl rfl ?_
 refine R.gtr rfl rfl rfl ?_
 refine aA ?_
 refine nN (T.condD rfl (fun g1 => ?_) (fun g1 => ?_))
 refine T.set 68 (.bool true) (congrArg Value.bool (decide_eq_true g1)) ?_
 refine sR (R.bld (cs := [.int .i64 0, .slice none 0 0, .slice none 0 0]) rfl (fun _ => by kernel_rfl) ?_)
 refine stY (l := [.int .i64 0, .slice none 0 0, .slice none 0 0]) (new := [.int .i64 0, .slice none 0 0, .slice none 0 0]) (.tl (.tl .hd)) sizeOf27 rfl rfl ?_
 refine aA ?_
 refine aA ?_
 refine nN (T.has (Has.none (Has.none (Has.cons (.tl (.tl .hd)) Has.nil))) ?_)
 refine T.ret (Post.blkR (Post.thnR ?_))
 have hM : k_47 a0 = (((0, [], []) : Int × (List (Int × Bool)) × (List Int)), 0, 121) := by subst f6; rw [k_47, if_neg e7, e8, LR.seq_go, if_f e2, LR.seq_go, i3, LR.seq_go, if_neg e3, if_pos g1, LR.on_ret]
 exact finR3 (v := .agg #[.int .i64 0, .slice none 0 0, .slice none 0 0]) (v' := .int .u64 0) (v'' := .int .i64 121) [[], []] rfl (.cellA (cs := [.int .i64 0, .slice none 0 0, .slice none 0 0]) (l := [.int .i64 0, .slice none 0 0, .slice none 0 0]) isAgg27 sizeOf27 rfl (.tl (.tl .hd)) rfl rfl) (.tmp rfl) (.tmp rfl) (List.sublist_append_left ([[], []] : Own) _) ⟨.slice none 0 0, .slice none 0 0, [], [], by first | rw [hM] | rfl, rfl, by rw [hM]; exact OwnS.nil, by rw [hM]; exact OwnS.nil⟩
 refine T.set 68 (.bool false) (congrArg Value.bool (decide_eq_false g1)) ?_
 refine T.region (fA underlying27 rfl sizeOf24 ?_)
 refine R.ld isAgg24 rfl rfl (.tl (.tl (.tl .hd))) rfl ?_
 refine R.ldXH (cs := [.int .i64 0, .bool true]) (l := [.int .i64 0, .bool true]) isAgg110 sizeOf110 rfl rfl ((g2.trans (s23.trans b7)) _ _ hG1) rfl rfl ?_
 refine R.bs (e := 110) (cs := [.int .i64 0, .bool true]) rfl (fun _ => by kernel_rfl) ?_
 intro b34
 have w34 := lit1 (E := slotE) (e := 110) (H := H_c2) (b := b34) (y := ((0, true) : Int × Bool)) (a := [.int .i64 0, .bool true]) rfl
 obtain ⟨k35, y35, r35⟩ := Src.ownA w34
 refine R.app (E := slotE) (e := 110) (xs := a1.2.1) (ys := [((0, true) : Int × Bool)]) Tryz_ty24 rfl rfl rfl (OwnS.mono a6 b7) (.tl .hd) (r35 _ .hd) y35 lA lA ?_
 intro v35 c35 w35
 obtain ⟨A35, p35, rfl, m35, n35⟩ := OwnS.shape w35
 refine TL.del (.tl .hd) ?_
 refine fA underlying27 rfl sizeOf24 ?_
 refine stY (l := [sl A35 (a1.2.1 ++ [((0, true) : Int × Bool)]) p35]) (new := [.int .i64 (a1.1), sl A35 (a1.2.1 ++ [((0, true) : Int × Bool)]) p35, sl c9 a1.2.2 d0]) (.tl (.tl (.tl .hd))) sizeOf24 rfl (cells1 rfl) ?_
 refine TL.nil (Post.blkN ?_)
 refine id (Post.thnN ?_)
 exact ⟨(d2, a1.2.1, f0, a1.1, sl A35 (a1.2.1 ++ [((0, true) : Int × Bool)]) p35, (a1.2.1 ++ [((0, true) : Int × Bool)]), c35, sl c9 a1.2.2 d0, a1.2.2, c8), HLe.refl _, ⟨(Has.cons (.tl (.tl .hd)) (Has.cons (.tl (.tl .hd)) (Has.cons .hd (Has.cons .hd Has.nil)))), (OwnS.mono a6 b7), w35, (OwnS.mono d5 b7), bA, bA, (by rw [if_neg e3, if_neg g1])⟩, rfl, rfl, rfl, trivial⟩
 intro ⟨c6, c5, d1, a4, d6, a2, b8, d7, a3, b9⟩ σ_c3 H_c3 L_c3 ds_c3 s_c3 i8
 obtain ⟨hLc3, i9, e1, f4, hBc3_0, hBc3_1, hTc3⟩ := i8
 obtain ⟨b3, b4, rfl, j8, j0⟩ := OwnS.shape e1
 obtain ⟨b5, b6, rfl, j9, j1⟩ := OwnS.shape f4
 refine T.has hLc3 ?_
 refine sR (mA ?_)
 refine fA underlying27 rfl sizeOf24 ?_
 refine R.ld isAgg24 rfl rfl (.tl .hd) rfl ?_
 refine mA ?_
 refine R.subI rfl rfl rfl oA ?_
 have g5 : ((c6 - 1)).toNat < a2.length := bA
 obtain ⟨h8, e81, h81⟩ : ∃ y, y = (a2.getD (((c6 - 1)).toNat) (((0, false) : Int × Bool) : Int × Bool)) ∧ a2[((c6 - 1)).toNat]? = some y := ⟨_, rfl, k_46 (by first | exact g5 | simpa using g5 | (simp only [List.length_set]; omega) | omega | (rw [(k_26 _).length_eq]; exact g5))⟩
 obtain ⟨b81, u81, cs81, l81, f81, j81, i81, g81, k81⟩ := OwnS.elem e1 h81
 obtain rfl : l81 = [.int .i64 (h8.1), .bool (h8.2)] := g81
 refine R.ixp (sz := (slotE).size) underlying24 sizeOf110 rfl rfl rfl bA i81 ?_
 refine fA underlying110 rfl sizeOf3 ?_
 refine R.ld isAgg3 rfl rfl (by rw [← f81]; exact (.tl (.tl .hd))) (k81 0 _ rfl) ?_
 obtain ⟨f5, i5⟩ : ∃ r, r = (k_56 c6 h8.1) := ⟨_, rfl⟩
 refine R.callv (v := .tuple #[.int .u64 f5.1, .int .i64 f5.2]) rfl rfl rfl (by rw [i5]; exact ident_Entity_c _ (c6) (h8.1)) ?_
 refine mA ?_
 refine R.ext rfl rfl rfl ?_
 refine R.ext rfl rfl rfl ?_
 refine aA ?_
 refine aA ?_
 refine nN (sR (R.ldX (cs := [.int .i64 a4, .slice b3 a2.length b4, .slice b5 a3.length b6]) (l := [.int .i64 a4, .slice b3 a2.length b4, .slice b5 a3.length b6]) isAgg27 sizeOf27 rfl rfl (.tl .hd) rfl rfl ?_))
 refine mA ?_
 refine mA ?_
 refine stY (l := [.int .i64 a4, sl b3 a2 b4, sl b5 a3 b6]) (new := [.int .i64 a4, sl b3 a2 b4, sl b5 a3 b6]) .hd sizeOf27 rfl rfl ?_
 refine aA ?_
 refine aA ?_
 refine nN (T.has (Has.cons (.tl (.tl .hd)) (Has.cons (.tl (.tl .hd)) (Has.cons .hd Has.nil))) ?_)
 refine T.ret ?_
 have hM : k_47 a0 = ((a4, a2, a3), f5.1, f5.2) := by subst i5; subst e81; subst f6; rw [k_47, if_neg e7, e8, LR.seq_go, if_f e2, LR.seq_go, i3, LR.seq_go, hTc3, LR.on_go, LR.seq_go]
 exact finR3 (v := .agg #[.int .i64 a4, sl b3 a2 b4, sl b5 a3 b6]) (v' := .int .u64 (f5.1)) (v'' := .int .i64 (f5.2)) [b8, b9] rfl (.cellA (cs := [.int .i64 a4, sl b3 a2 b4, sl b5 a3 b6]) (l := [.int .i64 a4, sl b3 a2 b4, sl b5 a3 b6]) isAgg27 sizeOf27 rfl (.tl (.tl .hd)) rfl rfl) (.tmp rfl) (.tmp rfl) (List.sublist_append_left ([b8, b9] : Own) _) ⟨sl b3 a2 b4, sl b5 a3 b6, b8, b9, by first | rw [hM] | rfl, rfl, by rw [hM]; exact e1, by rw [hM]; exact f4⟩
 all_goals first
  | (
   refine vA 8 [] rfl (fun _ _ h_ => aA (TL.nil h_)) ?_
   refine Plan.done (Post.thnN ?_)
   exact ⟨(((a1.2.1.length : Int) + 1), (a1.2.2.length : Int)), HLe.refl _, ⟨(Has.cons .hd (Has.cons .hd (Has.cons .hd (Has.cons .hd Has.nil)))), bA, bA, (by rfl)⟩, rfl, rfl, rfl, rfl, trivial⟩)
  | (
   refine vA 4 [] rfl (fun _ _ h_ => R.eql rfl rfl rfl (TL.nil h_)) ?_
   refine Plan.done (Post.thnN ?_)
   exact ⟨(decide (((k_83 a0) : Int) = a0.1)), HLe.refl _, ⟨(Has.cons .hd (Has.cons .hd Has.nil)), (by rfl)⟩, rfl, rfl, rfl, trivial⟩)
end Go.SX
namespace Go.SX
open Go Go.Proofs Go.Proofs.Tryz
def k_9c (a0 : Int × (List (Int × Bool)) × (List Int)) (a1 : Int) : Bool :=
  if ((k_27 a0) : Int) = 0 then ((k_59 a0 a1)) else false
theorem alloc_Alive_c (H : Heap) {tG1 : TypeId} (hG1 : gA H 1 tG1) (a0 : Int × (List (Int × Bool)) × (List Int)) (a9 : Value) (a7 : RdS slotE H a9 a0.2.1) (b0 : Value) (a8 : RdS (intE .i64) H b0 a0.2.2) (a1 : Int) (hs : a0.2.1.length ≤ 2000000) (hf : a0.2.2.length ≤ 2000000) : Fv Tryz.prog (fnv 77) [.agg #[.int .i64 a0.1, a9, b0], .int .u64 a1] H (.bool (k_9c a0 a1)) := by
 refine Fc.of_body (N := 13) func77 rfl kA rfl rfl ?_
 intro w0
 obtain ⟨a2, a3, rfl, hca0_1, hda0_1, a7⟩ := a7.shape
 obtain ⟨a4, a5, rfl, hca0_2, hda0_2, a8⟩ := a8.shape
 refine sR (R.box rfl cA ?_)
 intro b2
 refine aA ?_
 refine TL.shut .hd ?_
 intro b3 a6 b4
 have b1 : b3 b2 = some (.cells #[.int .i64 (a0.1), .slice a2 a0.2.1.length a3, .slice a4 a0.2.2.length a5] 27) := shut1 b4
 refine nN (sR (R.ldXH (cs := [.int .i64 (a0.1), .slice a2 a0.2.1.length a3, .slice a4 a0.2.2.length a5]) (l := [.int .i64 (a0.1), .slice a2 a0.2.1.length a3, .slice a4 a0.2.2.length a5]) isAgg27 sizeOf27 rfl rfl b1 rfl rfl ?_))
 refine R.callv rfl rfl rfl (k_b4 _ (a6 _ _ hG1) a0 _ (a7.mono a6) _ (a8.mono a6) bA bA) ?_
 refine R.eql rfl rfl rfl ?_
 refine mA ?_
 refine TL.gsplitD 8 rfl (fun g8 => ?_) (fun g8 => ?_)
 refine R.ldXH (cs := [.int .i64 (a0.1), sl a2 a0.2.1 a3, sl a4 a0.2.2 a5]) (l := [.int .i64 (a0.1), sl a2 a0.2.1 a3, sl a4 a0.2.2 a5]) isAgg27 sizeOf27 rfl rfl b1 rfl rfl ?_
 refine mA ?_
 refine R.callv rfl rfl rfl (alloc_alive_c _ a0 _ (a7.mono a6) _ (a8.mono a6) (a1) bA bA) ?_
 refine R.pkTE rfl rfl cA ?_
 refine aA ?_
 refine nN (T.has Has.nil ?_)
 refine T.ret ?_
 have hM : k_9c a0 a1 = (k_59 a0 a1) := by rw [k_9c, if_pos g8]
 exact fin1L (v := .bool ((k_59 a0 a1))) [] rfl rfl (List.Sublist.refl _) ⟨rfl, by first | rw [hM] | rfl⟩
 refine oF ?_
 refine oF ?_
 refine oF ?_
 refine R.pkFE rfl rfl cA ?_
 refine aA ?_
 refine nN (T.has Has.nil ?_)
 refine T.ret ?_
 have hM : k_9c a0 a1 = false := by rw [k_9c, if_neg g8]
 exact fin1L (v := .bool false) [] rfl rfl (List.Sublist.refl _) ⟨rfl, by first | rw [hM] | rfl⟩
def alloc_At_m (a0 : Int × (List (Int × Bool)) × (List Int)) (a1 : Int) : Int × Bool :=
  LR.seq (if ((k_27 a0) : Int) ≠ 0 then true else (if a1 < 1 then true else (if (a0.2.1.length : Int) < a1 then true else (!(a0.2.1.getD (((a1 - 1)).toNat) (((0, false) : Int × Bool) : Int × Bool)).2))) : Bool) (fun sc1 => if sc1 = true then ((0, false)) else (LR.seq (k_56 a1 (a0.2.1.getD (((a1 - 1)).toNat) (((0, false) : Int × Bool) : Int × Bool)).1) (fun r41 => (r41.1, (decide (r41.2 = 0))))))
theorem alloc_At_c (H : Heap) {tG1 : TypeId} (hG1 : gA H 1 tG1) (a0 : Int × (List (Int × Bool)) × (List Int)) (b9 : Value) (a2 : RdS slotE H b9 a0.2.1) (c0 : Value) (a8 : RdS (intE .i64) H c0 a0.2.2) (a1 : Int) (hs : a0.2.1.length ≤ 2000000) (hf : a0.2.2.length ≤ 2000000) : Fv Tryz.prog (fnv 92) [.agg #[.int .i64 a0.1, b9, c0], .int .i64 a1] H (.tuple #[.int .u64 (alloc_At_m a0 a1).1, .bool (alloc_At_m a0 a1).2]) := by
 refine Fc.of_body (N := 47) func92 rfl kA rfl rfl ?_
 intro w0
 obtain ⟨a9, b0, rfl, hca0_1, hda0_1, a2⟩ := a2.shape
 obtain ⟨b1, b3, rfl, hca0_2, hda0_2, a8⟩ := a8.shape
 refine sR (R.box rfl cA ?_)
 intro b2
 refine aA ?_
 refine aA ?_
 refine TL.shut .hd ?_
 intro c5 a3 c6
 have a4 : c5 b2 = some (.cells #[.int .i64 (a0.1), .slice a9 a0.2.1.length b0, .slice b1 a0.2.2.length b3] 27) := shut1 c6
 refine nN (T.seq (T.seq (T.cutK (ι := Bool) (fun a5 H' L' ds' => Has L' [] ∧ (if ((k_27 a0) : Int) ≠ 0 then true else (if a1 < 1 then true else (if (a0.2.1.length : Int) < a1 then true else (!(a0.2.1.getD (((a1 - 1)).toNat) (((0, false) : Int × Bool) : Int × Bool)).2))) : Bool) = a5) (fun a5 => [(1, .int .i64 a1), (2, .pointer (some ⟨b2, 0, none⟩)), (31, .bool (a5))]) ?_ ?_)))
 refine T.region (R.ldXH (cs := [.int .i64 (a0.1), .slice a9 a0.2.1.length b0, .slice b1 a0.2.2.length b3]) (l := [.int .i64 (a0.1), .slice a9 a0.2.1.length b0, .slice b1 a0.2.2.length b3]) isAgg27 sizeOf27 rfl rfl a4 rfl rfl ?_)
 refine R.callv rfl rfl rfl (k_b4 _ (a3 _ _ hG1) a0 _ (a2.mono a3) _ (a8.mono a3) bA bA) ?_
 refine R.neq rfl rfl rfl ?_
 refine mA ?_
 refine TL.gsplitD 11 rfl (fun b5 => ?_) (fun b5 => ?_)
 refine oF ?_
 refine oF ?_
 refine R.pkTE rfl rfl cA ?_
 refine mA ?_
 refine oF ?_
 refine oF ?_
 refine oF ?_
 refine oF ?_
 refine oF ?_
 refine R.pkTE rfl rfl cA ?_
 refine mA ?_
 refine oF ?_
 refine oF ?_
 refine oF ?_
 refine oF ?_
 refine oF ?_
 refine oF ?_
 refine oF ?_
 refine oF ?_
 refine R.pkTE rfl rfl cA ?_
 refine nN ?_
 exact ⟨true, HLe.refl _, ⟨Has.nil, (by rw [if_pos b5])⟩, rfl, rfl, rfl, trivial⟩
 refine mA ?_
 refine R.lss rfl rfl rfl ?_
 refine R.pkFE rfl rfl cA ?_
 refine mA ?_
 refine TL.gsplitD 15 rfl (fun c1 => ?_) (fun c1 => ?_)
 refine oF ?_
 refine oF ?_
 refine oF ?_
 refine oF ?_
 refine oF ?_
 refine R.pkTE rfl rfl cA ?_
 refine mA ?_
 refine oF ?_
 refine oF ?_
 refine oF ?_
 refine oF ?_
 refine oF ?_
 refine oF ?_
 refine oF ?_
 refine oF ?_
 refine R.pkTE rfl rfl cA ?_
 refine nN ?_
 exact ⟨true, HLe.refl _, ⟨Has.nil, (by rw [if_neg b5, if_pos c1])⟩, rfl, rfl, rfl, trivial⟩
 refine mA ?_
 refine fA underlying27 rfl sizeOf24 ?_
 refine R.ldH isAgg24 rfl rfl a4 rfl ?_
 refine R.len underlying24 rfl rfl ?_
 refine R.gtr rfl rfl rfl ?_
 refine R.pkFE rfl rfl cA ?_
 refine mA ?_
 refine TL.gsplitD 22 rfl (fun g22 => ?_) (fun g22 => ?_)
 refine oF ?_
 refine oF ?_
 refine oF ?_
 refine oF ?_
 refine oF ?_
 refine oF ?_
 refine oF ?_
 refine oF ?_
 refine R.pkTE rfl rfl cA ?_
 refine nN ?_
 exact ⟨true, HLe.refl _, ⟨Has.nil, (by rw [if_neg b5, if_neg c1, if_pos g22])⟩, rfl, rfl, rfl, trivial⟩
 refine fA underlying27 rfl sizeOf24 ?_
 refine R.ldH isAgg24 rfl rfl a4 rfl ?_
 refine mA ?_
 refine R.subI rfl rfl rfl oA ?_
 have b6 : ((a1 - 1)).toNat < a0.2.1.length := bA
 obtain ⟨y27, e27, h27⟩ : ∃ y, y = (a0.2.1.getD (((a1 - 1)).toNat) (((0, false) : Int × Bool) : Int × Bool)) ∧ a0.2.1[((a1 - 1)).toNat]? = some y := ⟨_, rfl, k_46 (by first | exact b6 | simpa using b6 | (simp only [List.length_set]; omega) | omega | (rw [(k_26 _).length_eq]; exact b6))⟩
 obtain ⟨b27, o27, i27, k27⟩ := RdS.elem (a2.mono a3) h27
 obtain ⟨l27, g27, k27⟩ := k27
 obtain rfl : l27 = [.int .i64 (y27.1), .bool (y27.2)] := g27
 refine R.ixp underlying24 sizeOf110 rfl rfl rfl bA i27 ?_
 refine fA underlying110 rfl sizeOf4 ?_
 refine R.ldC isAgg4 rfl rfl (k27 1 _ rfl) ?_
 refine R.not rfl rfl ?_
 refine R.pkFE rfl rfl cA ?_
 refine nN ?_
 exact ⟨(!y27.2), HLe.refl _, ⟨Has.nil, (by subst e27; rw [if_neg b5, if_neg c1, if_neg g22])⟩, rfl, rfl, rfl, trivial⟩
 intro a5 σ_c1 H_c1 L_c1 ds_c1 c3 c7
 obtain ⟨hLc1, b4⟩ := c7
 refine T.has hLc1 ?_
 refine T.cond rfl (fun a6 => ?_) (fun a6 => ?_)
 refine T.set 31 (.bool true) (congrArg Value.bool a6) ?_
 have b7 := b4.trans a6
 try simp only [or_f, or_t, and_f, and_t, decide_eq_true_eq, decide_eq_false_iff_not, Bool.not_eq_true'] at b7
 refine sR (aA ?_)
 refine aA ?_
 refine nN (T.has Has.nil ?_)
 refine T.ret (Post.thnR ?_)
 have hM : alloc_At_m a0 a1 = (0, false) := by rw [alloc_At_m, b4, LR.seq_go, if_t a6]
 exact fin2L (v := .int .u64 0) (v' := .bool false) [] rfl rfl rfl (List.Sublist.refl _) ⟨rfl, by first | rw [hM] | rfl⟩
 refine T.set 31 (.bool false) (congrArg Value.bool a6) ?_
 have b7 := b4.trans a6
 try simp only [or_f, or_t, and_f, and_t, decide_eq_true_eq, decide_eq_false_iff_not, Bool.not_eq_true'] at b7
 refine T.skip (Post.thnN (sR ?_))
 refine mA ?_
 refine fA underlying27 rfl sizeOf24 ?_
 refine R.ldH isAgg24 rfl rfl (c3 _ _ a4) rfl ?_
 refine mA ?_
 refine R.subI rfl rfl rfl oA ?_
 have b8 : ((a1 - 1)).toNat < a0.2.1.length := bA
 obtain ⟨c2, e38, h38⟩ : ∃ y, y = (a0.2.1.getD (((a1 - 1)).toNat) (((0, false) : Int × Bool) : Int × Bool)) ∧ a0.2.1[((a1 - 1)).toNat]? = some y := ⟨_, rfl, k_46 (by first | exact b8 | simpa using b8 | (simp only [List.length_set]; omega) | omega | (rw [(k_26 _).length_eq]; exact b8))⟩
 obtain ⟨b38, o38, i38, k38⟩ := RdS.elem (a2.mono (a3.trans c3)) h38
 obtain ⟨l38, g38, k38⟩ := k38
 obtain rfl : l38 = [.int .i64 (c2.1), .bool (c2.2)] := g38
 refine R.ixp underlying24 sizeOf110 rfl rfl rfl bA i38 ?_
 refine fA underlying110 rfl sizeOf3 ?_
 refine R.ldC isAgg3 rfl rfl (k38 0 _ rfl) ?_
 obtain ⟨a7, c4⟩ : ∃ r, r = (k_56 a1 c2.1) := ⟨_, rfl⟩
 refine R.callv (v := .tuple #[.int .u64 a7.1, .int .i64 a7.2]) rfl rfl rfl (by rw [c4]; exact ident_Entity_c _ (a1) (c2.1)) ?_
 refine mA ?_
 refine R.ext rfl rfl rfl ?_
 refine R.ext rfl rfl rfl ?_
 refine aA ?_
 refine aA ?_
 refine nN (sR (mA ?_))
 refine mA ?_
 refine R.eql rfl rfl rfl ?_
 refine aA ?_
 refine aA ?_
 refine nN (T.has Has.nil ?_)
 refine T.ret ?_
 have hM : alloc_At_m a0 a1 = (a7.1, (decide (a7.2 = 0))) := by subst c4; subst e38; rw [alloc_At_m, b4, LR.seq_go, if_f a6, LR.seq_go]
 exact fin2L (v := .int .u64 (a7.1)) (v' := .bool (decide (a7.2 = 0))) [] rfl rfl rfl (List.Sublist.refl _) ⟨rfl, by first | rw [hM] | rfl⟩
def k_97  : List (Int × (Int × Bool)) → ((List Int)) → (List Int)
  | [], sr1 => sr1
  | yr1 :: ysr1, sr1 => LR.seq (k_56 yr1.1 yr1.2.1) (fun r19 => k_97 ysr1 ((sr1 ++ [r19.1])))
def k_8d (a0 : Int × (List (Int × Bool)) × (List Int)) : (List Int) :=
  if ((k_27 a0) : Int) ≠ 0 then [] else (LR.seq (k_7b a0) (fun r12 => LR.seq (k_97 r12 []) (fun or1 => or1)))
theorem alloc_All_c (H : Heap) {tG1 : TypeId} (hG1 : gA H 1 tG1) (a0 : Int × (List (Int × Bool)) × (List Int)) (c7 : Value) (b7 : RdS slotE H c7 a0.2.1) (c8 : Value) (b8 : RdS (intE .i64) H c8 a0.2.2) (hs : a0.2.1.length ≤ 2000000) (hf : a0.2.2.length ≤ 2000000) : Fc Tryz.prog (fnv 128) [.agg #[.int .i64 a0.1, c7, c8]] H [] (fun v' H' L' => ∃ d4 d5, v' = d4 ∧ L' = [d5] ∧ OwnS (intE .u64) 39 H' d4 (k_8d a0) d5) := by
 refine Fc.of_body (N := 27) func128 rfl kA rfl rfl ?_
 intro w0
 obtain ⟨a6, a7, rfl, hca0_1, hda0_1, b7⟩ := b7.shape
 obtain ⟨a8, a9, rfl, hca0_2, hda0_2, b8⟩ := b8.shape
 refine sR (R.box rfl cA ?_)
 intro b1
 refine aA ?_
 refine TL.shut .hd ?_
 intro d8 b0 d9
 have c9 : d8 b1 = some (.cells #[.int .i64 (a0.1), .slice a6 a0.2.1.length a7, .slice a8 a0.2.2.length a9] 27) := shut1 d9
 refine nN (T.seq (sR (R.ldXH (cs := [.int .i64 (a0.1), .slice a6 a0.2.1.length a7, .slice a8 a0.2.2.length a9]) (l := [.int .i64 (a0.1), .slice a6 a0.2.1.length a7, .slice a8 a0.2.2.length a9]) isAgg27 sizeOf27 rfl rfl c9 rfl rfl ?_)))
 refine R.callv rfl rfl rfl (k_b4 _ (b0 _ _ hG1) a0 _ (b7.mono b0) _ (b8.mono b0) bA bA) ?_
 refine R.neq rfl rfl rfl ?_
 refine nN (T.condD rfl (fun c0 => ?_) (fun c0 => ?_))
 refine T.set 10 (.bool true) (congrArg Value.bool (decide_eq_true c0)) ?_
 refine sR (aA ?_)
 refine nN (T.has (Has.none Has.nil) ?_)
 refine T.ret (Post.thnR ?_)
 have hM : k_8d a0 = [] := by rw [k_8d, if_pos c0]
 exact fin1L (v := .slice none 0 0) [[]] rfl rfl (List.Sublist.refl _) ⟨.slice none 0 0, [], by first | rw [hM] | rfl, rfl, by rw [hM]; exact OwnS.nil⟩
 refine T.set 10 (.bool false) (congrArg Value.bool (decide_eq_false c0)) ?_
 refine T.skip (Post.thnN (sR ?_))
 refine R.alloc zeroValue44 rfl ?_
 intro b3
 refine nN (T.seq (sR (R.ldXH (cs := [.int .i64 (a0.1), .slice a6 a0.2.1.length a7, .slice a8 a0.2.2.length a9]) (l := [.int .i64 (a0.1), .slice a6 a0.2.1.length a7, .slice a8 a0.2.2.length a9]) isAgg27 sizeOf27 rfl rfl c9 rfl rfl ?_)))
 obtain ⟨c1, c2⟩ : ∃ r, r = (k_7b a0) := ⟨_, rfl⟩
 refine R.callp rfl rfl rfl (alloc_living_c _ a0 _ (b7.mono b0) _ (b8.mono b0)) ?_
 intro v12 H12 s12 q12
 rw [← c2] at q12
 obtain ⟨e3, rfl, d2⟩ := q12
 have tl12 := living_len _ _ c2
 refine nN (T.block (T.rangeFunc (xs := c1) rfl rfl (enters_of func219 kA rfl) d2 (fun _ _ _ h => by subst h; rfl) rfl (fun pre H' L' => ∃ (a4 : Value) (a1 : List Int) (a2 : Chunk), Has L' [[(b3, .cells #[a4] 44)], a2] ∧ OwnS (intE .u64) 39 H' a4 a1 a2 ∧ a1.length ≤ pre.length ∧ k_97 (c1.drop pre.length) a1 = k_97 c1 []) (fun _ _ _ _ => False) (fun pre H H' L hle ⟨a4, a1, a2, hL, a3, hB0, hQ⟩ => ⟨a4, a1, a2, hL, (a3.mono hle), hB0, hQ⟩) (fun _ _ _ _ _ _ h => h) ?_ ?_ ?_ ?_))
 exact ⟨.slice none 0 0, [], [], (Has.cons .hd (Has.none Has.nil)), OwnS.nil, bA, (by rfl)⟩
 intro lr1 rr1 wr1 d0 a5 vsr1 Hr1 Lr1 sr1 c3 b9 hYr1
 obtain ⟨a4, a1, a2, c4, a3, d6, c5⟩ := b9
 obtain ⟨b4, b6, rfl, d3, c6⟩ := OwnS.shape a3
 obtain rfl := hYr1
 refine T.has c4 ?_
 have hlpr1 : d0.length + 1 ≤ c1.length := by have h0 := c3.length_le; simpa using h0
 refine sR (aA ?_)
 refine nN (T.region (R.alloc zeroValue110 rfl ?_))
 intro b5
 refine stY (l := [.int .i64 (a5.2.1), .bool (a5.2.2)]) (new := [.int .i64 (a5.2.1), .bool (a5.2.2)]) .hd sizeOf110 rfl rfl ?_
 refine TL.shut .hd ?_
 intro d1 e0 e1
 have e2 : d1 b5 = some (.cells #[.int .i64 (a5.2.1), .bool (a5.2.2)] 110) := shut1 e1
 refine TL.nil (onlyN.mk ?_)
 refine T.block (sR (mA ?_))
 refine fA underlying110 rfl sizeOf3 ?_
 refine R.ldH isAgg3 rfl rfl e2 rfl ?_
 obtain ⟨b2, d7⟩ : ∃ r, r = (k_56 a5.1 a5.2.1) := ⟨_, rfl⟩
 refine R.callv (v := .tuple #[.int .u64 b2.1, .int .i64 b2.2]) rfl rfl rfl (by rw [d7]; exact ident_Entity_c _ (a5.1) (a5.2.1)) ?_
 refine mA ?_
 refine R.ext rfl rfl rfl ?_
 refine R.ext rfl rfl rfl ?_
 refine aA ?_
 refine aA ?_
 refine nN (T.region (R.ld isAgg44 rfl rfl .hd rfl ?_))
 refine mA ?_
 refine R.bs rfl (k_4 underlying44 sizeOf39 zeroValue39 rfl rfl) ?_
 intro b24
 have w24 := lit1 (E := (intE .u64)) (e := 39) (H := d1) (b := b24) (y := b2.1) (a := [.int .u64 (b2.1)]) rfl
 obtain ⟨k25, y25, r25⟩ := Src.ownA w24
 refine R.app (E := (intE .u64)) (e := 39) (xs := a1) (ys := [b2.1]) k_2b rfl rfl rfl (OwnS.mono a3 e0) (.tl (.tl .hd)) (r25 _ .hd) y25 lA lA ?_
 intro v25 c25 w25
 obtain ⟨A25, p25, rfl, m25, n25⟩ := OwnS.shape w25
 refine TL.del (.tl .hd) ?_
 refine stY (l := [sl A25 (a1 ++ [b2.1]) p25]) (new := [sl A25 (a1 ++ [b2.1]) p25]) (.tl .hd) sizeOf44 rfl (cells1 rfl) ?_
 refine TL.nil (Post.blkN ?_)
 refine id ?_
 exact ⟨sl A25 (a1 ++ [b2.1]) p25, (a1 ++ [b2.1]), c25, (Has.cons (.tl .hd) (Has.cons .hd Has.nil)), w25, bA, (by subst d7; rw [← c5, drop_pre c3, k_97]; rw [LR.seq_go])⟩
 intro Dr1 Hr1 Lr1 sr1 b9
 obtain ⟨a4, a1, a2, c4, a3, d6, c5⟩ := b9
 obtain ⟨b4, b6, rfl, d3, c6⟩ := OwnS.shape a3
 have hEr1 : k_97 c1 [] = a1 := by rw [← c5, List.drop_length, k_97]
 refine id (Post.blkN ?_)
 refine id (Post.thnN (T.has c4 ?_))
 refine sR (R.ld isAgg44 rfl rfl .hd rfl ?_)
 refine aA ?_
 refine nN (T.has (Has.cons (.tl .hd) Has.nil) ?_)
 refine T.ret ?_
 have hM : k_8d a0 = a1 := by subst c2; rw [k_8d, if_neg c0, LR.seq_go, hEr1, LR.seq_go]
 exact fin1L (v := sl b4 a1 b6) [a2] rfl rfl (List.Sublist.refl _) ⟨sl b4 a1 b6, a2, by first | rw [hM] | rfl, rfl, by rw [hM]; exact a3⟩
 intro Dr1 cr1 d0 a5 Hr1 Lr1 sr1 c3 b9
 exact b9.elim
end Go.SX
