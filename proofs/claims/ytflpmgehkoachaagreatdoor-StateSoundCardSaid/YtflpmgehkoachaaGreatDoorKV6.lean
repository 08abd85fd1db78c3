/- 'StateSound' answers true, whatever it is handed, and what it is handed reads behind it as it did: the row, and its tied card. -/
import Derived.Test.YtflpmgehkoachaaGreatDoorKV5
set_option maxHeartbeats 3200000
set_option linter.unusedVariables false
set_option linter.unusedSimpArgs false
namespace Go.SX
open Go Go.Proofs Go.Proofs.Tryz
def k_21  : List (List Int) → Nat → (ZR) → ZR
  | [], kl4, sl4 => (sl4.1, sl4.2.1, sl4.2.2)
  | yl4 :: ysl4, kl4, sl4 => if (kl4 : Int) < 14 then (k_21 ysl4 (kl4 + 1) ((sl4.1, sl4.2.1, (sl4.2.2 ++ [(yl4.take ((min yl4.length 6)))])))) else (k_21 ysl4 (kl4 + 1) ((sl4.1, sl4.2.1, sl4.2.2)))
def k_31  : List (ZR) → Nat → ((List (ZR))) → (List (ZR))
  | [], kl2, sl2 => sl2
  | yl2 :: ysl2, kl2, sl2 => if (kl2 : Int) < 20 then (LR.seq ((yl2.1, (yl2.2.1.take ((min yl2.2.1.length 14))), []) : ZR) (fun sc3 => LR.seq (k_21 yl2.2.2 0 ((sc3.1, sc3.2.1, sc3.2.2))) (fun ol4 => k_31 ysl2 (kl2 + 1) ((sl2 ++ [(ol4.1, ol4.2.1, ol4.2.2)]))))) else (k_31 ysl2 (kl2 + 1) sl2)
def k_a (a0 : ZS) : (ZS) :=
  LR.seq (((a0.1, (a0.2.1.1, (a0.2.1.2.1.take ((min a0.2.1.2.1.length 24))), (a0.2.1.2.2.take ((min a0.2.1.2.2.length 24)))), (a0.2.2.1.take ((min a0.2.2.1.length 24))), []) : ZS) : (ZS)) (fun sc1 => LR.seq (k_31 a0.2.2.2 0 sc1.2.2.2) (fun ol2 => ((sc1.1, (sc1.2.1.1, sc1.2.1.2.1, sc1.2.1.2.2), sc1.2.2.1, ol2) : ZS)))
theorem windroselaw19_own_c (H : Heap) (a0 : ZS) (n5 : Value) (k6 : RdS slotE H n5 a0.2.1.2.1) (n6 : Value) (k7 : RdS (intE .i64) H n6 a0.2.1.2.2) (n7 : Value) (k8 : RdS relationE H n7 a0.2.2.1) (n8 : Value) (k9 : RdS rowE H n8 a0.2.2.2) : Fc Tryz.prog (fnv 10) [.agg (c24 a0.1 [.int .i64 a0.2.1.1, n5, n6, n7, n8]).toArray] H [] (fun v' H' L' => ∃ p9 q0 q1 q2 q3 q4 q5 q6, v' = .agg (c24 (k_a a0).1 [.int .i64 (k_a a0).2.1.1, p9, q0, q1, q2]).toArray ∧ L' = [q3, q4, q5, q6] ∧ OwnS slotE 110 H' p9 (k_a a0).2.1.2.1 q3 ∧ OwnS (intE .i64) 3 H' q0 (k_a a0).2.1.2.2 q4 ∧ OwnS relationE 55 H' q1 (k_a a0).2.2.1 q5 ∧ OwnS rowE 47 H' q2 (k_a a0).2.2.2 q6) := by
 refine Fc.of_body (N := 95) func10 rfl kA rfl rfl ?_
 intro w0
 obtain ⟨n9, o0, rfl, u5, u6, k6⟩ := k6.shape
 obtain ⟨o1, o2, rfl, u7, u8, k7⟩ := k7.shape
 obtain ⟨o3, o4, rfl, u9, v0, k8⟩ := k8.shape
 obtain ⟨g8, g9, rfl, v1, v2, k9⟩ := k9.shape
 refine sR (R.box rfl cA ?_)
 intro b1
 refine R.alloc zeroValue31 rfl ?_
 intro b2
 refine TL.shut (.tl .hd) ?_
 intro t0 k2 t1
 have f4 : t0 b1 = some (.cells (c24 a0.1 [.int .i64 (a0.2.1.1), .slice n9 a0.2.1.2.1.length o0, .slice o1 a0.2.1.2.2.length o2, .slice o3 a0.2.2.1.length o4, .slice g8 a0.2.2.2.length g9]).toArray 31) := shut1 t1
 refine nN (T.seq (T.cutK (ι := Nat × (ZS) × Value × Chunk × Value × Chunk × Value × Chunk × Value × Chunk) (fun ⟨g1, a2, h7, c7, h8, c8, h9, c9, i0, g2⟩ H' L' ds' => Has L' [[(b2, .cells zSt.toArray 31)], c7, c8, c9, g2, [(g1, .cells (c24 a2.1 [.int .i64 (a2.2.1.1), h7, h8, h9, i0]).toArray 31)]] ∧ OwnS slotE 110 H' h7 a2.2.1.2.1 c7 ∧ OwnS (intE .i64) 3 H' h8 a2.2.1.2.2 c8 ∧ OwnS relationE 55 H' h9 a2.2.2.1 c9 ∧ OwnS rowE 47 H' i0 a2.2.2.2 g2 ∧ a2.2.2.2.length = 0 ∧ (((a0.1, (a0.2.1.1, (a0.2.1.2.1.take ((min a0.2.1.2.1.length 24))), (a0.2.1.2.2.take ((min a0.2.1.2.2.length 24)))), (a0.2.2.1.take ((min a0.2.2.1.length 24))), []) : ZS) : (ZS)) = a2) (fun ⟨g1, a2, h7, c7, h8, c8, h9, c9, i0, g2⟩ => [(1, .pointer (some ⟨b1, 0, none⟩)), (2, .pointer (some ⟨b2, 0, none⟩)), (3, .pointer (some ⟨g1, 0, none⟩))]) ?_ ?_))
 refine T.draw k_2f kA ?_
 refine vP 0 [1, 2, 3, 4, 5, 6, 7, 8, 9, 10, 11, 12, 13, 14, 15, 16, 17, 18, 19, 20, 21, 22, 23, 24, 25, 26, 27, 28, 29, 30, 31, 32, 33, 34, 35, 36] rfl underlying31 rfl sizeOf23 ?_
 refine vA 1 [2, 3, 4, 5, 6, 7, 8, 9, 10, 11, 12, 13, 14, 15, 16, 17, 18, 19, 20, 21, 22, 23, 24, 25, 26, 27, 28, 29, 30, 31, 32, 33, 34, 35, 36] rfl (fun _ _ h_ => R.ldXH (cs := (c24 a0.1 [.int .i64 (a0.2.1.1), sl n9 a0.2.1.2.1 o0, sl o1 a0.2.1.2.2 o2, sl o3 a0.2.2.1 o4, sl g8 a0.2.2.2 g9])) (l := (c24 a0.1 [])) isAgg23 sizeOf23 rfl rfl f4 rfl rfl (TL.nil h_)) ?_
 refine vP 2 [3, 4, 5, 6, 7, 8, 9, 10, 11, 12, 13, 14, 15, 16, 17, 18, 19, 20, 21, 22, 23, 24, 25, 26, 27, 28, 29, 30, 31, 32, 33, 34, 35, 36] rfl underlying31 rfl sizeOf27 ?_
 refine vP 3 [4, 5, 6, 7, 8, 9, 10, 11, 12, 13, 14, 15, 16, 17, 18, 19, 20, 21, 22, 23, 24, 25, 26, 27, 28, 29, 30, 31, 32, 33, 34, 35, 36] rfl underlying27 rfl sizeOf3 ?_
 refine vA 4 [5, 6, 7, 8, 9, 10, 11, 12, 13, 14, 15, 16, 17, 18, 19, 20, 21, 22, 23, 24, 25, 26, 27, 28, 29, 30, 31, 32, 33, 34, 35, 36] rfl (fun _ _ h_ => R.ldH isAgg3 rfl rfl f4 rfl (TL.nil h_)) ?_
 refine vP 5 [6, 7, 8, 9, 10, 11, 12, 13, 14, 15, 16, 17, 18, 19, 20, 21, 22, 23, 24, 25, 26, 27, 28, 29, 30, 31, 32, 33, 34, 35, 36] rfl underlying31 rfl sizeOf27 ?_
 refine vP 6 [7, 8, 9, 10, 11, 12, 13, 14, 15, 16, 17, 18, 19, 20, 21, 22, 23, 24, 25, 26, 27, 28, 29, 30, 31, 32, 33, 34, 35, 36] rfl underlying27 rfl sizeOf24 ?_
 refine vA 7 [8, 9, 10, 11, 12, 13, 14, 15, 16, 17, 18, 19, 20, 21, 22, 23, 24, 25, 26, 27, 28, 29, 30, 31, 32, 33, 34, 35, 36] rfl (fun _ _ h_ => R.ldH isAgg24 rfl rfl f4 rfl (TL.nil h_)) ?_
 refine vP 8 [9, 10, 11, 12, 13, 14, 15, 16, 17, 18, 19, 20, 21, 22, 23, 24, 25, 26, 27, 28, 29, 30, 31, 32, 33, 34, 35, 36] rfl underlying31 rfl sizeOf27 ?_
 refine vP 9 [10, 11, 12, 13, 14, 15, 16, 17, 18, 19, 20, 21, 22, 23, 24, 25, 26, 27, 28, 29, 30, 31, 32, 33, 34, 35, 36] rfl underlying27 rfl sizeOf24 ?_
 refine vA 10 [11, 12, 13, 14, 15, 16, 17, 18, 19, 20, 21, 22, 23, 24, 25, 26, 27, 28, 29, 30, 31, 32, 33, 34, 35, 36] rfl (fun _ _ h_ => R.ldH isAgg24 rfl rfl f4 rfl (TL.nil h_)) ?_
 refine vA 11 [12, 13, 14, 15, 16, 17, 18, 19, 20, 21, 22, 23, 24, 25, 26, 27, 28, 29, 30, 31, 32, 33, 34, 35, 36] rfl (fun _ _ h_ => R.len underlying24 rfl rfl (TL.nil h_)) ?_
 refine vA 12 [13, 14, 15, 16, 17, 18, 19, 20, 21, 22, 23, 24, 25, 26, 27, 28, 29, 30, 31, 32, 33, 34, 35, 36] rfl (fun _ _ h_ => R.min2 rfl rfl rfl (TL.nil h_)) ?_
 refine Plan.set 21 (.int .i64 ((min a0.2.1.2.1.length 24 : Nat) : Int)) (congrArg (Value.int .i64) (by split <;> omega)) ?_
 have z22 := RdS.takeC (k6.mono k2) (i := (min a0.2.1.2.1.length 24)) oA oA
 obtain ⟨i3, l0⟩ : ∃ x, x = (a0.2.1.2.1.take ((min a0.2.1.2.1.length 24))) := ⟨_, rfl⟩
 rw [← l0] at z22
 obtain ⟨A22, p22, q22, m22, n22, r22⟩ := RdS.shape z22
 have t22 : i3.length ≤ a0.2.1.2.1.length := by rw [l0]; simp; try omega
 have t22_ : i3.length = min ((min a0.2.1.2.1.length 24)) a0.2.1.2.1.length := by rw [l0]; simp
 refine vA 13 [14, 15, 16, 17, 18, 19, 20, 21, 22, 23, 24, 25, 26, 27, 28, 29, 30, 31, 32, 33, 34, 35, 36] rfl (fun _ _ h_ => R.sH underlying24 sizeOf110 rfl rfl rfl oA oA  (TL.nil h_)) ?_
 refine Plan.set 22 (.slice A22 i3.length p22) (by first | exact q22 | (rw [← q22]; simp; done) | (rw [← q22]; rfl)) ?_
 refine vP 15 [14, 16, 17, 18, 19, 20, 21, 22, 23, 24, 25, 26, 27, 28, 29, 30, 31, 32, 33, 34, 35, 36] rfl underlying31 rfl sizeOf27 ?_
 refine vP 16 [14, 17, 18, 19, 20, 21, 22, 23, 24, 25, 26, 27, 28, 29, 30, 31, 32, 33, 34, 35, 36] rfl underlying27 rfl sizeOf25 ?_
 refine vA 17 [14, 18, 19, 20, 21, 22, 23, 24, 25, 26, 27, 28, 29, 30, 31, 32, 33, 34, 35, 36] rfl (fun _ _ h_ => R.ldH isAgg25 rfl rfl f4 rfl (TL.nil h_)) ?_
 refine vP 18 [14, 19, 20, 21, 22, 23, 24, 25, 26, 27, 28, 29, 30, 31, 32, 33, 34, 35, 36] rfl underlying31 rfl sizeOf27 ?_
 refine vP 19 [14, 20, 21, 22, 23, 24, 25, 26, 27, 28, 29, 30, 31, 32, 33, 34, 35, 36] rfl underlying27 rfl sizeOf25 ?_
 refine vA 20 [14, 21, 22, 23, 24, 25, 26, 27, 28, 29, 30, 31, 32, 33, 34, 35, 36] rfl (fun _ _ h_ => R.ldH isAgg25 rfl rfl f4 rfl (TL.nil h_)) ?_
 refine vA 21 [14, 22, 23, 24, 25, 26, 27, 28, 29, 30, 31, 32, 33, 34, 35, 36] rfl (fun _ _ h_ => R.len underlying25 rfl rfl (TL.nil h_)) ?_
 refine vA 22 [14, 23, 24, 25, 26, 27, 28, 29, 30, 31, 32, 33, 34, 35, 36] rfl (fun _ _ h_ => R.min2 rfl rfl rfl (TL.nil h_)) ?_
 refine Plan.set 31 (.int .i64 ((min a0.2.1.2.2.length 24 : Nat) : Int)) (congrArg (Value.int .i64) (by split <;> omega)) ?_
 have z32 := RdS.takeC (k7.mono k2) (i := (min a0.2.1.2.2.length 24)) oA oA
 obtain ⟨g4, l1⟩ : ∃ x, x = (a0.2.1.2.2.take ((min a0.2.1.2.2.length 24))) := ⟨_, rfl⟩
 rw [← l1] at z32
 obtain ⟨A32, p32, q32, m32, n32, r32⟩ := RdS.shape z32
 have t32 : g4.length ≤ a0.2.1.2.2.length := by rw [l1]; simp; try omega
 have t32_ : g4.length = min ((min a0.2.1.2.2.length 24)) a0.2.1.2.2.length := by rw [l1]; simp
 refine vA 23 [14, 24, 25, 26, 27, 28, 29, 30, 31, 32, 33, 34, 35, 36] rfl (fun _ _ h_ => R.sH underlying25 sizeOf3 rfl rfl rfl oA oA  (TL.nil h_)) ?_
 refine Plan.set 32 (.slice A32 g4.length p32) (by first | exact q32 | (rw [← q32]; simp; done) | (rw [← q32]; rfl)) ?_
 refine vP 26 [14, 24, 25, 27, 28, 29, 30, 31, 32, 33, 34, 35, 36] rfl underlying31 rfl sizeOf28 ?_
 refine vA 27 [14, 24, 25, 28, 29, 30, 31, 32, 33, 34, 35, 36] rfl (fun _ _ h_ => R.ldH isAgg28 rfl rfl f4 rfl (TL.nil h_)) ?_
 refine vP 28 [14, 24, 25, 29, 30, 31, 32, 33, 34, 35, 36] rfl underlying31 rfl sizeOf28 ?_
 refine vA 29 [14, 24, 25, 30, 31, 32, 33, 34, 35, 36] rfl (fun _ _ h_ => R.ldH isAgg28 rfl rfl f4 rfl (TL.nil h_)) ?_
 refine vA 30 [14, 24, 25, 31, 32, 33, 34, 35, 36] rfl (fun _ _ h_ => R.len underlying28 rfl rfl (TL.nil h_)) ?_
 refine vA 31 [14, 24, 25, 32, 33, 34, 35, 36] rfl (fun _ _ h_ => R.min2 rfl rfl rfl (TL.nil h_)) ?_
 refine Plan.set 40 (.int .i64 ((min a0.2.2.1.length 24 : Nat) : Int)) (congrArg (Value.int .i64) (by split <;> omega)) ?_
 have z41 := RdS.takeC (k8.mono k2) (i := (min a0.2.2.1.length 24)) oA oA
 obtain ⟨f6, l2⟩ : ∃ x, x = (a0.2.2.1.take ((min a0.2.2.1.length 24))) := ⟨_, rfl⟩
 rw [← l2] at z41
 obtain ⟨A41, p41, q41, m41, n41, q7⟩ := RdS.shape z41
 have t41 : f6.length ≤ a0.2.2.1.length := by rw [l2]; simp; try omega
 have t41_ : f6.length = min ((min a0.2.2.1.length 24)) a0.2.2.1.length := by rw [l2]; simp
 refine vA 32 [14, 24, 25, 33, 34, 35, 36] rfl (fun _ _ h_ => R.sH underlying28 sizeOf55 rfl rfl rfl oA oA  (TL.nil h_)) ?_
 refine Plan.set 41 (.slice A41 f6.length p41) (by first | exact q41 | (rw [← q41]; simp; done) | (rw [← q41]; rfl)) ?_
 refine Plan.s2 14 35 [24, 25, 33, 34, 35, 36] [14, 24, 25, 33, 34, 36] kA kA kA rfl rfl ?_ ?_
 refine TL.call [] rfl rfl rfl (k_a8 _ _ i3 r22 bA) ?_
 intro v23 H23 L23 g0 q23
 obtain ⟨o5, rfl, i4⟩ := q23
 obtain ⟨c6, i5⟩ : ∃ x, x = i3 := ⟨_, rfl⟩
 rw [← i5] at i4
 obtain ⟨d5, d6, rfl, m23, n23⟩ := OwnS.shape i4
 have t23 : c6.length = i3.length := by rw [i5]
 refine TL.nil (Plan.e1 (g0) ?_)
 refine Plan.s2 24 35 [25, 33, 34, 35, 36] [24, 25, 33, 34, 36] kA kA kA rfl rfl ?_ ?_
 refine TL.call [] rfl rfl rfl (k_86 _ _ g4 (r32.mono g0) bA) ?_
 intro v33 H33 L33 e8 o6
 obtain ⟨m3, rfl, g5⟩ := o6
 obtain ⟨c4, g6⟩ : ∃ x, x = g4 := ⟨_, rfl⟩
 rw [← g6] at g5
 obtain ⟨d2, d3, rfl, m33, n33⟩ := OwnS.shape g5
 have t33 : c4.length = g4.length := by rw [g6]
 refine TL.nil (Plan.e1 (e8) ?_)
 refine vA 25 [33, 34, 35, 36] rfl (fun _ _ h_ => R.bld (cs := [.int .i64 (a0.2.1.1), sl d5 c6 d6, sl d2 c4 d3]) rfl (fun _ => by kernel_rfl) (TL.nil h_)) ?_
 refine Plan.s2 33 35 [34, 35, 36] [33, 34, 36] kA kA kA rfl rfl ?_ ?_
 refine TL.call [] rfl rfl rfl (k_80 _ _ f6 (q7.mono (g0.trans e8)) bA) ?_
 intro v42 H42 L42 e2 l3
 obtain ⟨l4, rfl, f7⟩ := l3
 obtain ⟨c5, f8⟩ : ∃ x, x = f6 := ⟨_, rfl⟩
 rw [← f8] at f7
 obtain ⟨e3, e4, rfl, m42, n42⟩ := OwnS.shape f7
 have t42 : c5.length = f6.length := by rw [f8]
 refine TL.nil (Plan.e1 (e2) ?_)
 refine vA 34 [35, 36] rfl (fun _ _ h_ => R.bld (cs := (c24 a0.1 [.int .i64 (a0.2.1.1), sl d5 c6 d6, sl d2 c4 d3, sl e3 c5 e4, .slice none 0 0])) rfl (fun _ => by kernel_rfl) (TL.nil h_)) ?_
 refine Plan.s1 35 [36] kA kA rfl ?_
 refine R.alloc zeroValue31 rfl ?_
 intro b3
 refine eA ?_
 refine Plan.s1 36 [] kA kA rfl ?_
 refine stY (l := (c24 a0.1 [.int .i64 (a0.2.1.1), sl d5 c6 d6, sl d2 c4 d3, sl e3 c5 e4, .slice none 0 0])) (new := (c24 a0.1 [.int .i64 (a0.2.1.1), sl d5 c6 d6, sl d2 c4 d3, sl e3 c5 e4, .slice none 0 0])) .hd sizeOf31 rfl rfl ?_
 refine eB ?_
 refine Plan.done (Post.thnN ?_)
 exact ⟨(b3, ((a0.1, (a0.2.1.1, c6, c4), c5, []) : ZS), sl d5 c6 d6, o5, sl d2 c4 d3, m3, sl e3 c5 e4, l4, .slice none 0 0, []), (g0.trans (e8.trans e2)), ⟨(Has.cons (.tl (.tl (.tl (.tl .hd)))) (Has.cons (.tl (.tl (.tl .hd))) (Has.cons (.tl (.tl .hd)) (Has.cons (.tl .hd) (Has.none (Has.cons .hd Has.nil)))))), (OwnS.mono i4 (e8.trans e2)), (OwnS.mono g5 e2), f7, OwnS.nil, bA, (by subst f8; subst g6; subst i5; subst l2; subst l1; subst l0; rfl)⟩, rfl, rfl, rfl, trivial⟩
 refine R.alloc zeroValue31 rfl ?_
 intro b3
 refine eA ?_
 refine Plan.s1 33 [34, 36] kA kA rfl ?_
 refine TL.call [] rfl rfl rfl (k_80 _ _ f6 (q7.mono (g0.trans e8)) bA) ?_
 intro v42 H42 L42 e2 l3
 obtain ⟨l4, rfl, f7⟩ := l3
 obtain ⟨c5, f8⟩ : ∃ x, x = f6 := ⟨_, rfl⟩
 rw [← f8] at f7
 obtain ⟨e3, e4, rfl, m42, n42⟩ := OwnS.shape f7
 have t42 : c5.length = f6.length := by rw [f8]
 refine TL.nil (Plan.e1 (e2) ?_)
 refine vA 34 [36] rfl (fun _ _ h_ => R.bld (cs := (c24 a0.1 [.int .i64 (a0.2.1.1), sl d5 c6 d6, sl d2 c4 d3, sl e3 c5 e4, .slice none 0 0])) rfl (fun _ => by kernel_rfl) (TL.nil h_)) ?_
 refine Plan.s1 36 [] kA kA rfl ?_
 refine stY (l := (c24 a0.1 [.int .i64 (a0.2.1.1), sl d5 c6 d6, sl d2 c4 d3, sl e3 c5 e4, .slice none 0 0])) (new := (c24 a0.1 [.int .i64 (a0.2.1.1), sl d5 c6 d6, sl d2 c4 d3, sl e3 c5 e4, .slice none 0 0])) (.tl .hd) sizeOf31 rfl rfl ?_
 refine eB ?_
 refine Plan.done (Post.thnN ?_)
 exact ⟨(b3, ((a0.1, (a0.2.1.1, c6, c4), c5, []) : ZS), sl d5 c6 d6, o5, sl d2 c4 d3, m3, sl e3 c5 e4, l4, .slice none 0 0, []), (g0.trans (e8.trans e2)), ⟨(Has.cons (.tl (.tl (.tl (.tl .hd)))) (Has.cons (.tl (.tl (.tl .hd))) (Has.cons (.tl (.tl .hd)) (Has.cons .hd (Has.none (Has.cons .hd Has.nil)))))), (OwnS.mono i4 (e8.trans e2)), (OwnS.mono g5 e2), f7, OwnS.nil, bA, (by subst f8; subst g6; subst i5; subst l2; subst l1; subst l0; rfl)⟩, rfl, rfl, rfl, trivial⟩
 refine R.alloc zeroValue31 rfl ?_
 intro b3
 refine eA ?_
 refine Plan.s1 24 [25, 33, 34, 36] kA kA rfl ?_
 refine TL.call [] rfl rfl rfl (k_86 _ _ g4 (r32.mono g0) bA) ?_
 intro v33 H33 L33 e8 o6
 obtain ⟨m3, rfl, g5⟩ := o6
 obtain ⟨c4, g6⟩ : ∃ x, x = g4 := ⟨_, rfl⟩
 rw [← g6] at g5
 obtain ⟨d2, d3, rfl, m33, n33⟩ := OwnS.shape g5
 have t33 : c4.length = g4.length := by rw [g6]
 refine TL.nil (Plan.e1 (e8) ?_)
 refine vA 25 [33, 34, 36] rfl (fun _ _ h_ => R.bld (cs := [.int .i64 (a0.2.1.1), sl d5 c6 d6, sl d2 c4 d3]) rfl (fun _ => by kernel_rfl) (TL.nil h_)) ?_
 refine Plan.s1 33 [34, 36] kA kA rfl ?_
 refine TL.call [] rfl rfl rfl (k_80 _ _ f6 (q7.mono (g0.trans e8)) bA) ?_
 intro v42 H42 L42 e2 l3
 obtain ⟨l4, rfl, f7⟩ := l3
 obtain ⟨c5, f8⟩ : ∃ x, x = f6 := ⟨_, rfl⟩
 rw [← f8] at f7
 obtain ⟨e3, e4, rfl, m42, n42⟩ := OwnS.shape f7
 have t42 : c5.length = f6.length := by rw [f8]
 refine TL.nil (Plan.e1 (e2) ?_)
 refine vA 34 [36] rfl (fun _ _ h_ => R.bld (cs := (c24 a0.1 [.int .i64 (a0.2.1.1), sl d5 c6 d6, sl d2 c4 d3, sl e3 c5 e4, .slice none 0 0])) rfl (fun _ => by kernel_rfl) (TL.nil h_)) ?_
 refine Plan.s1 36 [] kA kA rfl ?_
 refine stY (l := (c24 a0.1 [.int .i64 (a0.2.1.1), sl d5 c6 d6, sl d2 c4 d3, sl e3 c5 e4, .slice none 0 0])) (new := (c24 a0.1 [.int .i64 (a0.2.1.1), sl d5 c6 d6, sl d2 c4 d3, sl e3 c5 e4, .slice none 0 0])) (.tl (.tl .hd)) sizeOf31 rfl rfl ?_
 refine eB ?_
 refine Plan.done (Post.thnN ?_)
 exact ⟨(b3, ((a0.1, (a0.2.1.1, c6, c4), c5, []) : ZS), sl d5 c6 d6, o5, sl d2 c4 d3, m3, sl e3 c5 e4, l4, .slice none 0 0, []), (g0.trans (e8.trans e2)), ⟨(Has.cons (.tl (.tl (.tl (.tl .hd)))) (Has.cons (.tl (.tl (.tl .hd))) (Has.cons (.tl .hd) (Has.cons .hd (Has.none (Has.cons .hd Has.nil)))))), (OwnS.mono i4 (e8.trans e2)), (OwnS.mono g5 e2), f7, OwnS.nil, bA, (by subst f8; subst g6; subst i5; subst l2; subst l1; subst l0; rfl)⟩, rfl, rfl, rfl, trivial⟩
 refine R.alloc zeroValue31 rfl ?_
 intro b3
 refine eA ?_
 refine Plan.s1 14 [24, 25, 33, 34, 36] kA kA rfl ?_
 refine TL.call [] rfl rfl rfl (k_a8 _ _ i3 r22 bA) ?_
 intro v23 H23 L23 g0 q23
 obtain ⟨o5, rfl, i4⟩ := q23
 obtain ⟨c6, i5⟩ : ∃ x, x = i3 := ⟨_, rfl⟩
 rw [← i5] at i4
 obtain ⟨d5, d6, rfl, m23, n23⟩ := OwnS.shape i4
 have t23 : c6.length = i3.length := by rw [i5]
 refine TL.nil (Plan.e1 (g0) ?_)
 refine Plan.s1 24 [25, 33, 34, 36] kA kA rfl ?_
 refine TL.call [] rfl rfl rfl (k_86 _ _ g4 (r32.mono g0) bA) ?_
 intro v33 H33 L33 e8 o6
 obtain ⟨m3, rfl, g5⟩ := o6
 obtain ⟨c4, g6⟩ : ∃ x, x = g4 := ⟨_, rfl⟩
 rw [← g6] at g5
 obtain ⟨d2, d3, rfl, m33, n33⟩ := OwnS.shape g5
 have t33 : c4.length = g4.length := by rw [g6]
 refine TL.nil (Plan.e1 (e8) ?_)
 refine vA 25 [33, 34, 36] rfl (fun _ _ h_ => R.bld (cs := [.int .i64 (a0.2.1.1), sl d5 c6 d6, sl d2 c4 d3]) rfl (fun _ => by kernel_rfl) (TL.nil h_)) ?_
 refine Plan.s1 33 [34, 36] kA kA rfl ?_
 refine TL.call [] rfl rfl rfl (k_80 _ _ f6 (q7.mono (g0.trans e8)) bA) ?_
 intro v42 H42 L42 e2 l3
 obtain ⟨l4, rfl, f7⟩ := l3
 obtain ⟨c5, f8⟩ : ∃ x, x = f6 := ⟨_, rfl⟩
 rw [← f8] at f7
 obtain ⟨e3, e4, rfl, m42, n42⟩ := OwnS.shape f7
 have t42 : c5.length = f6.length := by rw [f8]
 refine TL.nil (Plan.e1 (e2) ?_)
 refine vA 34 [36] rfl (fun _ _ h_ => R.bld (cs := (c24 a0.1 [.int .i64 (a0.2.1.1), sl d5 c6 d6, sl d2 c4 d3, sl e3 c5 e4, .slice none 0 0])) rfl (fun _ => by kernel_rfl) (TL.nil h_)) ?_
 refine Plan.s1 36 [] kA kA rfl ?_
 refine stY (l := (c24 a0.1 [.int .i64 (a0.2.1.1), sl d5 c6 d6, sl d2 c4 d3, sl e3 c5 e4, .slice none 0 0])) (new := (c24 a0.1 [.int .i64 (a0.2.1.1), sl d5 c6 d6, sl d2 c4 d3, sl e3 c5 e4, .slice none 0 0])) (.tl (.tl (.tl .hd))) sizeOf31 rfl rfl ?_
 refine eB ?_
 refine Plan.done (Post.thnN ?_)
 exact ⟨(b3, ((a0.1, (a0.2.1.1, c6, c4), c5, []) : ZS), sl d5 c6 d6, o5, sl d2 c4 d3, m3, sl e3 c5 e4, l4, .slice none 0 0, []), (g0.trans (e8.trans e2)), ⟨(Has.cons (.tl (.tl (.tl (.tl .hd)))) (Has.cons (.tl (.tl .hd)) (Has.cons (.tl .hd) (Has.cons .hd (Has.none (Has.cons .hd Has.nil)))))), (OwnS.mono i4 (e8.trans e2)), (OwnS.mono g5 e2), f7, OwnS.nil, bA, (by subst f8; subst g6; subst i5; subst l2; subst l1; subst l0; rfl)⟩, rfl, rfl, rfl, trivial⟩
 intro ⟨g1, a2, h7, c7, h8, c8, h9, c9, i0, g2⟩ σ_c1 H_c1 L_c1 ds_c1 r2 t2
 obtain ⟨hLc1, m4, m5, m6, m7, hBc1_0, hTc1⟩ := t2
 obtain ⟨b7, b8, rfl, v3, u1⟩ := OwnS.shape m4
 obtain ⟨b9, c0, rfl, v4, u2⟩ := OwnS.shape m5
 obtain ⟨c1, c2, rfl, v5, u3⟩ := OwnS.shape m6
 obtain ⟨r0, r1, rfl, v6, u4⟩ := OwnS.shape m7
 refine T.has hLc1 ?_
 refine T.seq (sR (fA underlying31 rfl sizeOf29 ?_))
 refine R.ldH isAgg29 rfl rfl (r2 _ _ f4) rfl ?_
 refine R.len underlying29 rfl rfl ?_
 refine mA ?_
 refine nN (T.block (T.loop (ι := Nat × Value × (List (ZR)) × Chunk) (fun ⟨d7, e5, a3, a7⟩ H' L' ds' => d7 ≤ a0.2.2.2.length ∧ Has L' [[(b2, .cells zSt.toArray 31)], c7, c8, c9, [(g1, .cells (c24 a2.1 [.int .i64 (a2.2.1.1), .slice b7 a2.2.1.2.1.length b8, .slice b9 a2.2.1.2.2.length c0, .slice c1 a2.2.2.1.length c2, e5]).toArray 31)], a7] ∧ OwnS rowE 47 H' e5 a3 a7 ∧ a3.length ≤ 20 ∧ a3.length ≤ d7 ∧ k_31 (a0.2.2.2.drop d7) d7 a3 = k_31 a0.2.2.2 0 a2.2.2.2) (fun ⟨d7, e5, a3, a7⟩ => [(47, .int .i64 (d7 : Int)), (2, .pointer (some ⟨b2, 0, none⟩)), (3, .pointer (some ⟨g1, 0, none⟩)), (45, .slice g8 a0.2.2.2.length g9), (46, .int .i64 (a0.2.2.2.length : Int))]) (fun ⟨d7, e5, a3, a7⟩ => a0.2.2.2.length - d7) (0, .slice r0 a2.2.2.2.length r1, a2.2.2.2, g2) ?_ ?_ ?_))
 exact ⟨oA, (Has.cons .hd (Has.cons .hd (Has.cons .hd (Has.cons .hd (Has.cons (.tl .hd) (Has.cons .hd Has.nil)))))), m7, bA, bA, (by rfl)⟩
 exact ⟨rfl, rfl, rfl, rfl, rfl, trivial⟩
 intro ⟨d7, e5, a3, a7⟩ σ_l2 H_l2 L_l2 ds_l2 j4 m9
 obtain ⟨hkl2, m9⟩ := m9
 obtain ⟨hLl2, f5, hBl2_0, hBl2_1, p7⟩ := m9
 obtain ⟨a8, a9, rfl, t3, s9⟩ := OwnS.shape f5
 refine T.has hLl2 ?_
 refine sR (R.lss rfl rfl rfl ?_)
 refine nN (T.seq (T.condD rfl (fun c48 => ?_) (fun c48 => ?_)))
 have hltl2 : d7 < a0.2.2.2.length := by omega
 obtain ⟨a6, p8⟩ := getk (xs := a0.2.2.2) (k := d7) oA
 refine T.skip (Post.thnN (T.seq ?_))
 refine T.block (sR (mA ?_))
 obtain ⟨b50, o50, i50, k50⟩ := RdS.elem (k9.mono (k2.trans (r2.trans j4))) p8
 obtain ⟨l50, g50, k50⟩ := k50
 obtain ⟨z50_1, z50_2, rfl, n0, n1⟩ := g50
 obtain ⟨k3, k4, rfl, m50_1, n50_1, n0⟩ := n0.shape
 obtain ⟨i6, i7, rfl, m50_2, n50_2, n1⟩ := n1.shape
 refine R.ixp underlying29 sizeOf47 rfl rfl rfl oA i50 ?_
 refine R.ldK (l := [.int .i64 (a6.1), sl k3 a6.2.1 k4, sl i6 a6.2.2 i7]) isAgg47 sizeOf47 rfl rfl k50 rfl ?_
 refine R.alloc zeroValue47 rfl ?_
 intro b5
 refine aA ?_
 refine stY (l := [.int .i64 (a6.1), sl k3 a6.2.1 k4, sl i6 a6.2.2 i7]) (new := [.int .i64 (a6.1), sl k3 a6.2.1 k4, sl i6 a6.2.2 i7]) .hd sizeOf47 rfl rfl ?_
 refine TL.shut .hd ?_
 intro t4 i1 t5
 have k5 : t4 b5 = some (.cells #[.int .i64 (a6.1), .slice k3 a6.2.1.length k4, .slice i6 a6.2.2.length i7] 47) := shut1 t5
 refine nN (sR (mA ?_))
 refine R.lss rfl rfl rfl ?_
 refine nN (T.condD rfl (fun o7 => ?_) (fun o7 => ?_))
 refine T.set 53 (.bool true) (congrArg Value.bool (decide_eq_true o7)) ?_
 refine T.seq (T.cutK (ι := Nat × Int × Value × (List Int) × Chunk × Value × (List (List Int)) × Chunk) (fun ⟨j5, f9, i8, e9, h0, i9, e6, h1⟩ H' L' ds' => Has L' [[(b2, .cells zSt.toArray 31)], c7, c8, c9, [(g1, .cells (c24 a2.1 [.int .i64 (a2.2.1.1), .slice b7 a2.2.1.2.1.length b8, .slice b9 a2.2.1.2.2.length c0, .slice c1 a2.2.2.1.length c2, .slice a8 a3.length a9]).toArray 31)], a7, h0, h1, [(j5, .cells #[.int .i64 f9, i8, i9] 47)]] ∧ OwnS (intE .u64) 39 H' i8 e9 h0 ∧ OwnS (slE (intE .u64)) 64 H' i9 e6 h1 ∧ e6.length = 0 ∧ ((a6.1, (a6.2.1.take ((min a6.2.1.length 14))), []) : ZR) = (f9, e9, e6)) (fun ⟨j5, f9, i8, e9, h0, i9, e6, h1⟩ => [(2, .pointer (some ⟨b2, 0, none⟩)), (3, .pointer (some ⟨g1, 0, none⟩)), (5, .pointer (some ⟨b5, 0, none⟩)), (45, .slice g8 a0.2.2.2.length g9), (46, .int .i64 (a0.2.2.2.length : Int)), (47, .int .i64 (d7 : Int)), (6, .pointer (some ⟨j5, 0, none⟩))]) ?_ ?_)
 refine T.draw k_2f kA ?_
 refine vP 0 [1, 2, 3, 4, 5, 6, 7, 8, 9, 10, 11, 12] rfl underlying47 rfl sizeOf3 ?_
 refine vA 1 [2, 3, 4, 5, 6, 7, 8, 9, 10, 11, 12] rfl (fun _ _ h_ => R.ldH isAgg3 rfl rfl k5 rfl (TL.nil h_)) ?_
 refine vP 2 [3, 4, 5, 6, 7, 8, 9, 10, 11, 12] rfl underlying47 rfl sizeOf44 ?_
 refine vA 3 [4, 5, 6, 7, 8, 9, 10, 11, 12] rfl (fun _ _ h_ => R.ldH isAgg44 rfl rfl k5 rfl (TL.nil h_)) ?_
 refine vP 4 [5, 6, 7, 8, 9, 10, 11, 12] rfl underlying47 rfl sizeOf44 ?_
 refine vA 5 [6, 7, 8, 9, 10, 11, 12] rfl (fun _ _ h_ => R.ldH isAgg44 rfl rfl k5 rfl (TL.nil h_)) ?_
 refine vA 6 [7, 8, 9, 10, 11, 12] rfl (fun _ _ h_ => R.len underlying44 rfl rfl (TL.nil h_)) ?_
 refine vA 7 [8, 9, 10, 11, 12] rfl (fun _ _ h_ => R.min2 rfl rfl rfl (TL.nil h_)) ?_
 refine Plan.set 61 (.int .i64 ((min a6.2.1.length 14 : Nat) : Int)) (congrArg (Value.int .i64) (by split <;> omega)) ?_
 have z62 := RdS.takeC (n0.mono i1) (i := (min a6.2.1.length 14)) oA oA
 obtain ⟨j0, o8⟩ : ∃ x, x = (a6.2.1.take ((min a6.2.1.length 14))) := ⟨_, rfl⟩
 rw [← o8] at z62
 obtain ⟨A62, p62, q62, m62, n62, r62⟩ := RdS.shape z62
 have t62 : j0.length ≤ a6.2.1.length := by rw [o8]; simp; try omega
 have t62_ : j0.length = min ((min a6.2.1.length 14)) a6.2.1.length := by rw [o8]; simp
 refine vA 8 [9, 10, 11, 12] rfl (fun _ _ h_ => R.sH underlying44 sizeOf39 rfl rfl rfl oA oA  (TL.nil h_)) ?_
 refine Plan.set 62 (.slice A62 j0.length p62) (by first | exact q62 | (rw [← q62]; simp; done) | (rw [← q62]; rfl)) ?_
 refine Plan.s2 9 11 [10, 11, 12] [9, 10, 12] kA kA kA rfl rfl ?_ ?_
 refine TL.call [] rfl rfl rfl (clone44_c _ _ j0 r62 bA) ?_
 intro v63 H63 L63 o9 q63
 obtain ⟨c63, rfl, l5⟩ := q63
 obtain ⟨g3, l6⟩ : ∃ x, x = j0 := ⟨_, rfl⟩
 rw [← l6] at l5
 obtain ⟨j1, j2, rfl, m63, n63⟩ := OwnS.shape l5
 have t63 : g3.length = j0.length := by rw [l6]
 refine TL.nil (Plan.e1 (o9) ?_)
 refine vA 10 [11, 12] rfl (fun _ _ h_ => R.bld (cs := [.int .i64 (a6.1), sl j1 g3 j2, .slice none 0 0]) rfl (fun _ => by kernel_rfl) (TL.nil h_)) ?_
 refine Plan.s1 11 [12] kA kA rfl ?_
 refine R.alloc zeroValue47 rfl ?_
 intro b6
 refine eA ?_
 refine Plan.s1 12 [] kA kA rfl ?_
 refine stY (l := [.int .i64 (a6.1), sl j1 g3 j2, .slice none 0 0]) (new := [.int .i64 (a6.1), sl j1 g3 j2, .slice none 0 0]) .hd sizeOf47 rfl rfl ?_
 refine eB ?_
 refine Plan.done (Post.thnN ?_)
 exact ⟨(b6, a6.1, sl j1 g3 j2, g3, c63, .slice none 0 0, [], []), o9, ⟨(Has.cons (.tl (.tl .hd)) (Has.cons (.tl (.tl .hd)) (Has.cons (.tl (.tl .hd)) (Has.cons (.tl (.tl .hd)) (Has.cons (.tl (.tl .hd)) (Has.cons (.tl (.tl .hd)) (Has.cons (.tl .hd) (Has.none (Has.cons .hd Has.nil))))))))), l5, OwnS.nil, bA, (by subst l6; subst o8; rfl)⟩, rfl, rfl, rfl, rfl, rfl, rfl, rfl, trivial⟩
 refine R.alloc zeroValue47 rfl ?_
 intro b6
 refine eA ?_
 refine Plan.s1 9 [10, 12] kA kA rfl ?_
 refine TL.call [] rfl rfl rfl (clone44_c _ _ j0 r62 bA) ?_
 intro v63 H63 L63 o9 q63
 obtain ⟨c63, rfl, l5⟩ := q63
 obtain ⟨g3, l6⟩ : ∃ x, x = j0 := ⟨_, rfl⟩
 rw [← l6] at l5
 obtain ⟨j1, j2, rfl, m63, n63⟩ := OwnS.shape l5
 have t63 : g3.length = j0.length := by rw [l6]
 refine TL.nil (Plan.e1 (o9) ?_)
 refine vA 10 [12] rfl (fun _ _ h_ => R.bld (cs := [.int .i64 (a6.1), sl j1 g3 j2, .slice none 0 0]) rfl (fun _ => by kernel_rfl) (TL.nil h_)) ?_
 refine Plan.s1 12 [] kA kA rfl ?_
 refine stY (l := [.int .i64 (a6.1), sl j1 g3 j2, .slice none 0 0]) (new := [.int .i64 (a6.1), sl j1 g3 j2, .slice none 0 0]) (.tl .hd) sizeOf47 rfl rfl ?_
 refine eB ?_
 refine Plan.done (Post.thnN ?_)
 exact ⟨(b6, a6.1, sl j1 g3 j2, g3, c63, .slice none 0 0, [], []), o9, ⟨(Has.cons (.tl (.tl .hd)) (Has.cons (.tl (.tl .hd)) (Has.cons (.tl (.tl .hd)) (Has.cons (.tl (.tl .hd)) (Has.cons (.tl (.tl .hd)) (Has.cons (.tl (.tl .hd)) (Has.cons .hd (Has.none (Has.cons .hd Has.nil))))))))), l5, OwnS.nil, bA, (by subst l6; subst o8; rfl)⟩, rfl, rfl, rfl, rfl, rfl, rfl, rfl, trivial⟩
 intro ⟨j5, f9, i8, e9, h0, i9, e6, h1⟩ σ_c3 H_c3 L_c3 ds_c3 n2 t6
 obtain ⟨hLc3, p0, p1, hBc3_0, hTc3⟩ := t6
 obtain ⟨r3, r4, rfl, m6c3_1, v7⟩ := OwnS.shape p0
 obtain ⟨r5, r6, rfl, m6c3_2, v8⟩ := OwnS.shape p1
 refine T.has hLc3 ?_
 refine T.seq (sR (fA underlying47 rfl sizeOf45 ?_))
 refine R.ldH isAgg45 rfl rfl (n2 _ _ k5) rfl ?_
 refine R.len underlying45 rfl rfl ?_
 refine mA ?_
 refine nN (T.block (T.loop (ι := Nat × Int × Value × (List Int) × Chunk × Value × (List (List Int)) × Chunk) (fun ⟨d0, a5, f0, a4, c3, f1, a1, d8⟩ H' L' ds' => d0 ≤ a6.2.2.length ∧ Has L' [[(b2, .cells zSt.toArray 31)], c7, c8, c9, [(g1, .cells (c24 a2.1 [.int .i64 (a2.2.1.1), .slice b7 a2.2.1.2.1.length b8, .slice b9 a2.2.1.2.2.length c0, .slice c1 a2.2.2.1.length c2, .slice a8 a3.length a9]).toArray 31)], a7, [(j5, .cells #[.int .i64 a5, f0, f1] 47)], c3, d8] ∧ OwnS (intE .u64) 39 H' f0 a4 c3 ∧ OwnS (slE (intE .u64)) 64 H' f1 a1 d8 ∧ a1.length ≤ 14 ∧ a1.length ≤ d0 ∧ k_21 (a6.2.2.drop d0) d0 ((a5, a4, a1)) = k_21 a6.2.2 0 ((f9, e9, e6))) (fun ⟨d0, a5, f0, a4, c3, f1, a1, d8⟩ => [(68, .int .i64 (d0 : Int)), (2, .pointer (some ⟨b2, 0, none⟩)), (3, .pointer (some ⟨g1, 0, none⟩)), (6, .pointer (some ⟨j5, 0, none⟩)), (45, .slice g8 a0.2.2.2.length g9), (46, .int .i64 (a0.2.2.2.length : Int)), (47, .int .i64 (d7 : Int)), (66, .slice i6 a6.2.2.length i7), (67, .int .i64 (a6.2.2.length : Int))]) (fun ⟨d0, a5, f0, a4, c3, f1, a1, d8⟩ => a6.2.2.length - d0) (0, f9, .slice r3 e9.length r4, e9, h0, .slice r5 e6.length r6, e6, h1) ?_ ?_ ?_))
 exact ⟨oA, (Has.cons .hd (Has.cons .hd (Has.cons .hd (Has.cons .hd (Has.cons .hd (Has.cons .hd (Has.cons (.tl (.tl .hd)) (Has.cons .hd (Has.cons .hd Has.nil))))))))), p0, p1, bA, bA, (by rfl)⟩
 exact ⟨rfl, rfl, rfl, rfl, rfl, rfl, rfl, rfl, rfl, trivial⟩
 intro ⟨d0, a5, f0, a4, c3, f1, a1, d8⟩ σ_l4 H_l4 L_l4 ds_l4 i2 n3
 obtain ⟨hkl4, n3⟩ := n3
 obtain ⟨hLl4, d9, e0, hBl4_0, hBl4_1, l7⟩ := n3
 obtain ⟨b0, b4, rfl, t9, t7⟩ := OwnS.shape d9
 obtain ⟨f2, f3, rfl, u0, t8⟩ := OwnS.shape e0
 refine T.has hLl4 ?_
 refine sR (R.lss rfl rfl rfl ?_)
 refine nN (T.seq (T.condD rfl (fun c69 => ?_) (fun c69 => ?_)))
 have hltl4 : d0 < a6.2.2.length := by omega
 obtain ⟨l8, l9⟩ := getk (xs := a6.2.2) (k := d0) oA
 refine T.skip (Post.thnN (T.seq ?_))
 refine T.block (sR (mA ?_))
 obtain ⟨b71, o71, i71, k71⟩ := RdS.elem (n1.mono (i1.trans (n2.trans i2))) l9
 obtain ⟨l71, g71, k71⟩ := k71
 obtain ⟨z71_0, rfl, n4⟩ := g71
 obtain ⟨A71_0, p71_0, rfl, m71_0, n71_0, n4⟩ := n4.shape
 refine R.ixp underlying45 sizeOf64 rfl rfl rfl oA i71 ?_
 refine R.ldC isAgg64 rfl rfl (k71 0 _ rfl) ?_
 refine aA ?_
 refine aA ?_
 refine nN (sR (mA ?_))
 refine R.lss rfl rfl rfl ?_
 refine nN (T.condD rfl (fun m0 => ?_) (fun m0 => ?_))
 refine T.set 74 (.bool true) (congrArg Value.bool (decide_eq_true m0)) ?_
 refine T.draw k_2f kA ?_
 refine vP 0 [1, 2, 3, 4, 5, 6, 7, 8, 9, 10, 11] rfl underlying47 rfl sizeOf45 ?_
 refine vM 2 [1, 3, 4, 5, 6, 7, 8, 9, 10, 11] rfl rfl cA ?_
 refine vM 3 [1, 4, 5, 6, 7, 8, 9, 10, 11] rfl rfl cA ?_
 refine vA 4 [1, 5, 6, 7, 8, 9, 10, 11] rfl (fun _ _ h_ => R.len underlying64 rfl rfl (TL.nil h_)) ?_
 refine vA 5 [1, 6, 7, 8, 9, 10, 11] rfl (fun _ _ h_ => R.min2 rfl rfl rfl (TL.nil h_)) ?_
 refine Plan.set 80 (.int .i64 ((min l8.length 6 : Nat) : Int)) (congrArg (Value.int .i64) (by split <;> omega)) ?_
 have z81 := RdS.takeC n4 (i := (min l8.length 6)) oA oA
 obtain ⟨j3, m8⟩ : ∃ x, x = (l8.take ((min l8.length 6))) := ⟨_, rfl⟩
 rw [← m8] at z81
 obtain ⟨A81, p81, q81, m81, n81, r81⟩ := RdS.shape z81
 have t81 : j3.length ≤ l8.length := by rw [m8]; simp; try omega
 have t81_ : j3.length = min ((min l8.length 6)) l8.length := by rw [m8]; simp
 refine vA 6 [1, 7, 8, 9, 10, 11] rfl (fun _ _ h_ => R.sH underlying64 sizeOf38 rfl rfl rfl oA oA  (TL.nil h_)) ?_
 refine Plan.set 81 (.slice A81 j3.length p81) (by first | exact q81 | (rw [← q81]; simp; done) | (rw [← q81]; rfl)) ?_
 refine Plan.s2 1 7 [7, 8, 9, 10, 11] [1, 8, 9, 10, 11] kA kA kA rfl rfl ?_ ?_
 refine R.ld isAgg45 rfl rfl (.tl (.tl (.tl (.tl (.tl (.tl .hd)))))) rfl ?_
 refine eA ?_
 refine Plan.s1 7 [8, 9, 10, 11] kA kA rfl ?_
 refine TL.call [] rfl rfl rfl (clone64_c _ _ j3 r81 bA) ?_
 intro v82 H82 L82 g7 q82
 obtain ⟨c82, rfl, j6⟩ := q82
 obtain ⟨d1, j7⟩ : ∃ x, x = j3 := ⟨_, rfl⟩
 rw [← j7] at j6
 obtain ⟨q8, q9, rfl, m82, n82⟩ := OwnS.shape j6
 have t82 : d1.length = j3.length := by rw [j7]
 refine TL.nil (Plan.e1 (g7) ?_)
 refine Plan.s1 8 [9, 10, 11] kA kA rfl ?_
 refine TL.shut .hd ?_
 intro r7 h2 r8
 have r9 := OwnS.read j6 h2 r8
 refine R.bs rfl (k_4 underlying45 sizeOf64 zeroValue64 rfl rfl) ?_
 intro p2
 have p3 := lit1 (E := (slE (intE .u64))) (e := 64) (H := r7) (b := p2) (y := d1) (a := [.slice q8 d1.length q9]) ⟨_, rfl, r9⟩
 refine TL.nil (Plan.e1 (h2) ?_)
 refine Plan.s1 9 [10, 11] kA kA rfl ?_
 obtain ⟨k84, p4, p5⟩ := Src.ownA p3
 refine R.app (E := (slE (intE .u64))) (e := 64) (xs := a1) (ys := [d1]) k_30 rfl rfl rfl (OwnS.mono e0 (g7.trans h2)) (.tl (.tl (.tl (.tl (.tl (.tl (.tl (.tl (.tl .hd))))))))) (p5 _ .hd) p4 lA lA ?_
 intro v84 p6 j8
 obtain ⟨h3, h4, rfl, m84, n84⟩ := OwnS.shape j8
 refine TL.del (.tl .hd) ?_
 refine eA ?_
 refine vP 10 [11] rfl underlying47 rfl sizeOf45 ?_
 refine Plan.s1 11 [] kA kA rfl ?_
 refine stY (l := [sl h3 (a1 ++ [d1]) h4]) (new := [.int .i64 a5, sl b0 a4 b4, sl h3 (a1 ++ [d1]) h4]) (.tl (.tl (.tl (.tl (.tl (.tl (.tl .hd))))))) sizeOf45 rfl (cells1 rfl) ?_
 refine eB ?_
 refine Plan.done (Post.blkN ?_)
 refine id (Post.thnN (T.region ?_))
 refine R.addI rfl rfl rfl oA ?_
 refine mA ?_
 refine nN ?_
 exact ⟨(d0 + 1, a5, sl b0 a4 b4, a4, c3, sl h3 (a1 ++ [d1]) h4, (a1 ++ [d1]), p6), (i2.trans (g7.trans h2)), ⟨oA, (Has.cons (.tl .hd) (Has.cons (.tl .hd) (Has.cons (.tl .hd) (Has.cons (.tl .hd) (Has.cons (.tl .hd) (Has.cons (.tl .hd) (Has.cons (.tl .hd) (Has.cons (.tl .hd) (Has.cons .hd Has.nil))))))))), (OwnS.mono d9 (g7.trans h2)), j8, bA, bA, (by subst j7; subst m8; rw [← l7, k_8 l9, k_21]; rw [if_pos m0])⟩, by show a6.2.2.length - (d0 + 1) < a6.2.2.length - d0; omega, rfl, rfl, rfl, rfl, rfl, rfl, rfl, rfl, rfl, trivial⟩
 refine TL.call [] rfl rfl rfl (clone64_c _ _ j3 r81 bA) ?_
 intro v82 H82 L82 g7 q82
 obtain ⟨c82, rfl, j6⟩ := q82
 obtain ⟨d1, j7⟩ : ∃ x, x = j3 := ⟨_, rfl⟩
 rw [← j7] at j6
 obtain ⟨q8, q9, rfl, m82, n82⟩ := OwnS.shape j6
 have t82 : d1.length = j3.length := by rw [j7]
 refine TL.nil (Plan.e1 (g7) ?_)
 refine Plan.s2 1 8 [8, 9, 10, 11] [1, 9, 10, 11] kA kA kA rfl rfl ?_ ?_
 refine R.ld isAgg45 rfl rfl (.tl (.tl (.tl (.tl (.tl (.tl (.tl .hd))))))) rfl ?_
 refine eA ?_
 refine Plan.s1 8 [9, 10, 11] kA kA rfl ?_
 refine TL.shut .hd ?_
 intro s0 h5 s3
 have s4 := OwnS.read j6 h5 s3
 refine R.bs rfl (k_4 underlying45 sizeOf64 zeroValue64 rfl rfl) ?_
 intro p2
 have p3 := lit1 (E := (slE (intE .u64))) (e := 64) (H := s0) (b := p2) (y := d1) (a := [.slice q8 d1.length q9]) ⟨_, rfl, s4⟩
 refine TL.nil (Plan.e1 (h5) ?_)
 refine Plan.s1 9 [10, 11] kA kA rfl ?_
 obtain ⟨k84, p4, p5⟩ := Src.ownA p3
 refine R.app (E := (slE (intE .u64))) (e := 64) (xs := a1) (ys := [d1]) k_30 rfl rfl rfl (OwnS.mono e0 (g7.trans h5)) (.tl (.tl (.tl (.tl (.tl (.tl (.tl (.tl (.tl .hd))))))))) (p5 _ .hd) p4 lA lA ?_
 intro v84 p6 j8
 obtain ⟨h3, h4, rfl, m84, n84⟩ := OwnS.shape j8
 refine TL.del (.tl .hd) ?_
 refine eA ?_
 refine vP 10 [11] rfl underlying47 rfl sizeOf45 ?_
 refine Plan.s1 11 [] kA kA rfl ?_
 refine stY (l := [sl h3 (a1 ++ [d1]) h4]) (new := [.int .i64 a5, sl b0 a4 b4, sl h3 (a1 ++ [d1]) h4]) (.tl (.tl (.tl (.tl (.tl (.tl (.tl .hd))))))) sizeOf45 rfl (cells1 rfl) ?_
 refine eB ?_
 refine Plan.done (Post.blkN ?_)
 refine id (Post.thnN (T.region ?_))
 refine R.addI rfl rfl rfl oA ?_
 refine mA ?_
 refine nN ?_
 exact ⟨(d0 + 1, a5, sl b0 a4 b4, a4, c3, sl h3 (a1 ++ [d1]) h4, (a1 ++ [d1]), p6), (i2.trans (g7.trans h5)), ⟨oA, (Has.cons (.tl .hd) (Has.cons (.tl .hd) (Has.cons (.tl .hd) (Has.cons (.tl .hd) (Has.cons (.tl .hd) (Has.cons (.tl .hd) (Has.cons (.tl .hd) (Has.cons (.tl .hd) (Has.cons .hd Has.nil))))))))), (OwnS.mono d9 (g7.trans h5)), j8, bA, bA, (by subst j7; subst m8; rw [← l7, k_8 l9, k_21]; rw [if_pos m0])⟩, by show a6.2.2.length - (d0 + 1) < a6.2.2.length - d0; omega, rfl, rfl, rfl, rfl, rfl, rfl, rfl, rfl, rfl, trivial⟩
 refine TL.shut .hd ?_
 intro s5 h6 s6
 have s7 := OwnS.read j6 h6 s6
 refine R.bs rfl (k_4 underlying45 sizeOf64 zeroValue64 rfl rfl) ?_
 intro p2
 have p3 := lit1 (E := (slE (intE .u64))) (e := 64) (H := s5) (b := p2) (y := d1) (a := [.slice q8 d1.length q9]) ⟨_, rfl, s7⟩
 refine TL.nil (Plan.e1 (h6) ?_)
 refine Plan.s1 1 [9, 10, 11] kA kA rfl ?_
 refine R.ld isAgg45 rfl rfl (.tl (.tl (.tl (.tl (.tl (.tl (.tl .hd))))))) rfl ?_
 refine eA ?_
 refine Plan.s1 9 [10, 11] kA kA rfl ?_
 obtain ⟨k84, p4, p5⟩ := Src.ownA p3
 refine R.app (E := (slE (intE .u64))) (e := 64) (xs := a1) (ys := [d1]) k_30 rfl rfl rfl (OwnS.mono e0 (g7.trans h6)) (.tl (.tl (.tl (.tl (.tl (.tl (.tl (.tl (.tl .hd))))))))) (p5 _ .hd) p4 lA lA ?_
 intro v84 p6 j8
 obtain ⟨h3, h4, rfl, m84, n84⟩ := OwnS.shape j8
 refine TL.del (.tl .hd) ?_
 refine eA ?_
 refine vP 10 [11] rfl underlying47 rfl sizeOf45 ?_
 refine Plan.s1 11 [] kA kA rfl ?_
 refine stY (l := [sl h3 (a1 ++ [d1]) h4]) (new := [.int .i64 a5, sl b0 a4 b4, sl h3 (a1 ++ [d1]) h4]) (.tl (.tl (.tl (.tl (.tl (.tl (.tl .hd))))))) sizeOf45 rfl (cells1 rfl) ?_
 refine eB ?_
 refine Plan.done (Post.blkN ?_)
 refine id (Post.thnN (T.region ?_))
 refine R.addI rfl rfl rfl oA ?_
 refine mA ?_
 refine nN ?_
 exact ⟨(d0 + 1, a5, sl b0 a4 b4, a4, c3, sl h3 (a1 ++ [d1]) h4, (a1 ++ [d1]), p6), (i2.trans (g7.trans h6)), ⟨oA, (Has.cons (.tl .hd) (Has.cons (.tl .hd) (Has.cons (.tl .hd) (Has.cons (.tl .hd) (Has.cons (.tl .hd) (Has.cons (.tl .hd) (Has.cons (.tl .hd) (Has.cons (.tl .hd) (Has.cons .hd Has.nil))))))))), (OwnS.mono d9 (g7.trans h6)), j8, bA, bA, (by subst j7; subst m8; rw [← l7, k_8 l9, k_21]; rw [if_pos m0])⟩, by show a6.2.2.length - (d0 + 1) < a6.2.2.length - d0; omega, rfl, rfl, rfl, rfl, rfl, rfl, rfl, rfl, rfl, trivial⟩
 refine T.set 74 (.bool false) (congrArg Value.bool (decide_eq_false m0)) ?_
 refine T.skip (Post.blkN ?_)
 refine id (Post.thnN (T.region ?_))
 refine R.addI rfl rfl rfl oA ?_
 refine mA ?_
 refine nN ?_
 exact ⟨(d0 + 1, a5, sl b0 a4 b4, a4, c3, sl f2 a1 f3, a1, d8), i2, ⟨oA, (Has.cons .hd (Has.cons .hd (Has.cons .hd (Has.cons .hd (Has.cons .hd (Has.cons .hd (Has.cons .hd (Has.cons .hd (Has.cons .hd Has.nil))))))))), d9, e0, bA, bA, (by rw [← l7, k_8 l9, k_21]; rw [if_neg m0])⟩, by show a6.2.2.length - (d0 + 1) < a6.2.2.length - d0; omega, rfl, rfl, rfl, rfl, rfl, rfl, rfl, rfl, rfl, trivial⟩
 refine T.exit (Post.thnE (Post.thnE (Post.blkX ?_)))
 have hEl4 : k_21 a6.2.2 0 ((f9, e9, e6)) = (a5, a4, a1) := (l7.symm.trans (by rw [show d0 = a6.2.2.length by omega, List.drop_length, k_21]))
 refine id (Post.thnN (T.region ?_))
 refine fA underlying31 rfl sizeOf29 ?_
 refine R.ld isAgg29 rfl rfl (.tl (.tl (.tl (.tl .hd)))) rfl ?_
 refine R.ldX (cs := [.int .i64 a5, sl b0 a4 b4, sl f2 a1 f3]) (l := [.int .i64 a5, sl b0 a4 b4, sl f2 a1 f3]) isAgg47 sizeOf47 rfl rfl (.tl (.tl (.tl (.tl (.tl (.tl .hd)))))) rfl rfl ?_
 refine TL.shut (.tl (.tl (.tl (.tl (.tl (.tl (.tl .hd))))))) ?_
 intro s8 e7 m1
 have m2 := OwnS.read d9 e7 m1
 refine TL.shut (.tl (.tl (.tl (.tl (.tl (.tl (.tl .hd))))))) ?_
 intro j9 d4 k0
 have k1 := OwnS.read (OwnS.mono e0 e7) d4 k0
 refine R.bs (e := 47) (cs := [.int .i64 a5, sl b0 a4 b4, sl f2 a1 f3]) rfl (fun _ => by kernel_rfl) ?_
 intro b90
 have w90 := lit1 (E := rowE) (e := 47) (H := j9) (b := b90) (y := (a5, a4, a1)) (a := [.int .i64 a5, .slice b0 a4.length b4, .slice f2 a1.length f3]) ⟨_, _, rfl, (m2.mono d4), k1⟩
 obtain ⟨k91, y91, r91⟩ := Src.ownA w90
 refine R.app (E := rowE) (e := 47) (xs := a3) (ys := [(a5, a4, a1)]) Tryz_ty29 rfl rfl rfl (OwnS.mono f5 (i1.trans (n2.trans (i2.trans (e7.trans d4))))) (.tl (.tl (.tl (.tl (.tl (.tl .hd)))))) (r91 _ .hd) y91 lA lA ?_
 intro v91 c91 w91
 obtain ⟨A91, p91, rfl, m91, n91⟩ := OwnS.shape w91
 refine TL.del (.tl .hd) ?_
 refine fA underlying31 rfl sizeOf29 ?_
 refine stY (l := [sl A91 (a3 ++ [(a5, a4, a1)]) p91]) (new := (c24 a2.1 [.int .i64 (a2.2.1.1), sl b7 a2.2.1.2.1 b8, sl b9 a2.2.1.2.2 c0, sl c1 a2.2.2.1 c2, sl A91 (a3 ++ [(a5, a4, a1)]) p91])) (.tl (.tl (.tl (.tl (.tl .hd))))) sizeOf29 rfl (cells1 rfl) ?_
 refine TL.nil (Post.blkN ?_)
 refine id (Post.thnN (T.region ?_))
 refine R.addI rfl rfl rfl oA ?_
 refine mA ?_
 refine nN ?_
 exact ⟨(d7 + 1, sl A91 (a3 ++ [(a5, a4, a1)]) p91, (a3 ++ [(a5, a4, a1)]), c91), (j4.trans (i1.trans (n2.trans (i2.trans (e7.trans d4))))), ⟨oA, (Has.cons (.tl .hd) (Has.cons (.tl .hd) (Has.cons (.tl .hd) (Has.cons (.tl .hd) (Has.cons (.tl .hd) (Has.cons .hd Has.nil)))))), w91, bA, bA, (by rw [← p7, k_8 p8, k_31]; rw [if_pos o7, hTc3, LR.seq_go, hEl4, LR.seq_go])⟩, by show a0.2.2.2.length - (d7 + 1) < a0.2.2.2.length - d7; omega, rfl, rfl, rfl, rfl, rfl, trivial⟩
 refine T.set 53 (.bool false) (congrArg Value.bool (decide_eq_false o7)) ?_
 refine T.skip (Post.blkN ?_)
 refine id (Post.thnN (T.region ?_))
 refine R.addI rfl rfl rfl oA ?_
 refine mA ?_
 refine nN ?_
 exact ⟨(d7 + 1, sl a8 a3 a9, a3, a7), (j4.trans i1), ⟨oA, (Has.cons .hd (Has.cons .hd (Has.cons .hd (Has.cons .hd (Has.cons .hd (Has.cons .hd Has.nil)))))), (OwnS.mono f5 i1), bA, bA, (by rw [← p7, k_8 p8, k_31]; rw [if_neg o7])⟩, by show a0.2.2.2.length - (d7 + 1) < a0.2.2.2.length - d7; omega, rfl, rfl, rfl, rfl, rfl, trivial⟩
 refine T.exit (Post.thnE (Post.thnE (Post.blkX ?_)))
 have hEl2 : k_31 a0.2.2.2 0 a2.2.2.2 = a3 := (p7.symm.trans (by rw [show d7 = a0.2.2.2.length by omega, List.drop_length, k_31]))
 refine id (Post.thnN (sR ?_))
 refine R.ldX (cs := (c24 a2.1 [.int .i64 (a2.2.1.1), sl b7 a2.2.1.2.1 b8, sl b9 a2.2.1.2.2 c0, sl c1 a2.2.2.1 c2, sl a8 a3 a9])) (l := (c24 a2.1 [.int .i64 (a2.2.1.1), sl b7 a2.2.1.2.1 b8, sl b9 a2.2.1.2.2 c0, sl c1 a2.2.2.1 c2, sl a8 a3 a9])) isAgg31 sizeOf31 rfl rfl (.tl (.tl (.tl (.tl .hd)))) rfl rfl ?_
 refine stY (l := (c24 a2.1 [.int .i64 (a2.2.1.1), sl b7 a2.2.1.2.1 b8, sl b9 a2.2.1.2.2 c0, sl c1 a2.2.2.1 c2, sl a8 a3 a9])) (new := (c24 a2.1 [.int .i64 (a2.2.1.1), sl b7 a2.2.1.2.1 b8, sl b9 a2.2.1.2.2 c0, sl c1 a2.2.2.1 c2, sl a8 a3 a9])) .hd sizeOf31 rfl rfl ?_
 refine nN (T.has (Has.cons (.tl .hd) (Has.cons (.tl .hd) (Has.cons (.tl .hd) (Has.cons (.tl (.tl .hd)) (Has.cons .hd Has.nil))))) ?_)
 refine T.ret ?_
 have hM : k_a a0 = ((a2.1, (a2.2.1.1, a2.2.1.2.1, a2.2.1.2.2), a2.2.2.1, a3) : ZS) := by rw [k_a, hTc1, LR.seq_go, hEl2, LR.seq_go]
 exact finR1 (v := .agg (c24 a2.1 [.int .i64 (a2.2.1.1), sl b7 a2.2.1.2.1 b8, sl b9 a2.2.1.2.2 c0, sl c1 a2.2.2.1 c2, sl a8 a3 a9]).toArray) [c7, c8, c9, a7] rfl (.cellA (cs := (c24 a2.1 [.int .i64 (a2.2.1.1), sl b7 a2.2.1.2.1 b8, sl b9 a2.2.1.2.2 c0, sl c1 a2.2.2.1 c2, sl a8 a3 a9])) (l := (c24 a2.1 [.int .i64 (a2.2.1.1), sl b7 a2.2.1.2.1 b8, sl b9 a2.2.1.2.2 c0, sl c1 a2.2.2.1 c2, sl a8 a3 a9])) isAgg31 sizeOf31 rfl (.tl (.tl (.tl (.tl .hd)))) rfl rfl) (List.sublist_append_left ([c7, c8, c9, a7] : Own) _) ⟨sl b7 a2.2.1.2.1 b8, sl b9 a2.2.1.2.2 c0, sl c1 a2.2.2.1 c2, sl a8 a3 a9, c7, c8, c9, a7, by first | (rw [hM]; done) | (rw [hM]; rfl) | rfl, rfl, by rw [hM]; exact (OwnS.mono m4 j4), by rw [hM]; exact (OwnS.mono m5 j4), by rw [hM]; exact (OwnS.mono m6 j4), by rw [hM]; exact f5⟩
theorem own19_l4 : ∀ (l : List (List Int)) (k : Nat) (s : Rw), s.2.2.length ≤ k → s.2.2.length ≤ 14 → (∀ x ∈ s.2.2, x.length ≤ 6) → (k_21 l k s).2.1 = s.2.1 ∧ (k_21 l k s).2.2.length ≤ 14 ∧ ∀ x ∈ (k_21 l k s).2.2, x.length ≤ 6
  | [], k, s, h1, h2, h3 => by rw [k_21]; exact ⟨rfl, h2, h3⟩
  | y :: ys, k, s, h1, h2, h3 => by
    rw [k_21]
    by_cases c : (k : Int) < 14
    · rw [if_pos c]
      refine own19_l4 ys (k + 1) _ ?_ ?_ ?_
      · show (s.2.2 ++ _).length ≤ _
        rw [List.length_append, List.length_cons, List.length_nil]; omega
      · show (s.2.2 ++ _).length ≤ _
        rw [List.length_append, List.length_cons, List.length_nil]; omega
      · intro x hx
        rcases List.mem_append.1 hx with h | h
        · exact h3 x h
        · rw [List.mem_singleton] at h; subst h; rw [List.length_take]; omega
    · rw [if_neg c]
      exact own19_l4 ys (k + 1) _ (by show s.2.2.length ≤ _; omega) h2 h3
theorem own19_l2 : ∀ (l : List Rw) (k : Nat) (s : List Rw), s.length ≤ k → s.length ≤ 20 → (∀ r ∈ s, RowT r) → (k_31 l k s).length ≤ 20 ∧ ∀ r ∈ k_31 l k s, RowT r
  | [], k, s, h1, h2, h3 => by rw [k_31]; exact ⟨h2, h3⟩
  | y :: ys, k, s, h1, h2, h3 => by
    rw [k_31]
    by_cases c : (k : Int) < 20
    · rw [if_pos c, LR.seq_go, LR.seq_go]
      have h4 := own19_l4 y.2.2 0 (y.1, y.2.1.take (min y.2.1.length 14), []) (Nat.zero_le _) (Nat.zero_le _) (fun x hx => by cases hx)
      refine own19_l2 ys (k + 1) _ ?_ ?_ ?_
      · rw [List.length_append, List.length_cons, List.length_nil]; omega
      · rw [List.length_append, List.length_cons, List.length_nil]; omega
      · intro r hr
        rcases List.mem_append.1 hr with h | h
        · exact h3 r h
        · rw [List.mem_singleton] at h; subst h
          refine ⟨?_, h4.2.1, h4.2.2⟩
          show (k_21 _ _ _).2.1.length ≤ 14
          rw [h4.1, List.length_take]; omega
    · rw [if_neg c]
      exact own19_l2 ys (k + 1) s (by omega) h2 h3
theorem own19_t (a r : Sta) (e : r = k_a a) : StT r := by
  rw [e]
  unfold k_a
  rw [LR.seq_go, LR.seq_go]
  have h := own19_l2 a.2.2.2 0 [] (Nat.zero_le _) (Nat.zero_le _) (fun x hx => by cases hx)
  exact ⟨by show (List.take _ _).length ≤ 24; rw [List.length_take]; omega, by show (List.take _ _).length ≤ 24; rw [List.length_take]; omega, by show (List.take _ _).length ≤ 24; rw [List.length_take]; omega, h.1, h.2⟩
end Go.SX
namespace Go.SX
open Go Go.Proofs Go.Proofs.Tryz
def k_c (a0 : Int) (a1 : Int) : Int :=
  (k_54 9223372036854775808 a0 a1)
theorem k_b2 (H : Heap) (a0 : Int) (a1 : Int) : Fv Tryz.prog (fnv 48) [.int .i64 a0, .int .i64 a1] H (.int .u64 (k_c a0 a1)) := by
 refine Fc.of_body (N := 8) func48 rfl kA rfl rfl ?_
 intro w0
 refine sR (aA ?_)
 refine nN (sR (mA ?_))
 refine mA ?_
 refine R.callv rfl rfl rfl (windroseref01_Made_c _ (9223372036854775808) (a0) (a1)) ?_
 refine aA ?_
 refine nN (T.has Has.nil ?_)
 refine T.ret ?_
 have hM : k_c a0 a1 = (k_54 9223372036854775808 a0 a1) := by rw [k_c]
 exact fin1L (v := .int .u64 (k_54 9223372036854775808 a0 a1)) [] rfl rfl (List.Sublist.refl _) ⟨rfl, by first | rw [hM] | rfl⟩
def stsB (s : Sta) : Bool := decide (s.2.1.2.1.length ≤ 1000000) && decide (s.2.1.2.2.length ≤ 1000000) && decide (s.2.2.1.length ≤ 100000) && decide (s.2.2.2.length ≤ 100000) && (s.2.2.2.all fun r => decide (r.2.1.length ≤ 1000) && decide (r.2.2.length ≤ 1000) && r.2.2.all fun v => decide (v.length ≤ 1000)) && decide (idsN s.2.2.2 ≤ 1000)
theorem sts_of {s : Sta} (h : stsB s = true) : StS s := by
  unfold stsB at h
  simp only [Bool.and_eq_true, decide_eq_true_eq, List.all_eq_true] at h
  obtain ⟨⟨⟨⟨⟨h1, h2⟩, h3⟩, h4⟩, h5⟩, h6⟩ := h
  exact ⟨h1, h2, h3, h4, fun r hr => ⟨(h5 r hr).1.1, (h5 r hr).1.2, (h5 r hr).2⟩, h6⟩
def growS : Nat → Sta
  | 0 => (k_1e 9 (((fun k_ => ([1, 1, 1, 0, 0, 0, 0, 0, 0, 0, 0, 0, 0, 0, 0, 0, 0, 0, 0, 0, 0, 0, 0, 0] : List Int).getD k_.val 0) : W24))).1
  | n + 1 => (k_17 (growS n)).1
theorem growS_sts : ∀ k, k ≤ 3 → StS (growS k)
  | 0, _ => sts_of (by kernel_rfl)
  | 1, _ => sts_of (by kernel_rfl)
  | 2, _ => sts_of (by kernel_rfl)
  | 3, _ => sts_of (by kernel_rfl)
  | n + 4, h => by omega
def k_45 (r9 : (ZS) × Int) : Nat → Nat → ((ZS)) → LR ((ZS) × Bool) ((ZS))
  | 0, kl1, sl1 => .go sl1
  | ml1 + 1, kl1, sl1 => LR.seq (k_17 sl1) (fun r16 => LR.seq (if r9.2 ≠ 0 then true else ((decide (r16.2.2 ≠ 0))) : Bool) (fun sc2 => if sc2 = true then (.ret ((sl1, false))) else (k_45 r9 ml1 (kl1 + 1) r16.1)))
def k_2  : (ZS) × Bool :=
  LR.seq (k_1e 9 (((fun k_ => ([1, 1, 1, 0, 0, 0, 0, 0, 0, 0, 0, 0, 0, 0, 0, 0, 0, 0, 0, 0, 0, 0, 0, 0] : List Int).getD k_.val 0) : W24))) (fun r9 => LR.on (k_45 r9 (3 - 0) 0 r9.1) (fun r => r) (fun ol1 => (ol1, (decide ((ol1.2.2.2.length : Int) = 5)))))
theorem windroselaw19_small_c (H : Heap) {tG0 : TypeId} (hG0 : gF H 0 tG0) {tG1 : TypeId} (hG1 : gA H 1 tG1) : Fp Tryz.prog (fnv 47) [] H (fun v' H' => ∃ g9 h0 h1 h2, v' = .tuple #[.agg (c24 k_2.1.1 [.int .i64 k_2.1.2.1.1, g9, h0, h1, h2]).toArray, .bool k_2.2] ∧ RdS slotE H' g9 k_2.1.2.1.2.1 ∧ RdS (intE .i64) H' h0 k_2.1.2.1.2.2 ∧ RdS relationE H' h1 k_2.1.2.2.1 ∧ RdS rowE H' h2 k_2.1.2.2.2) := by
 refine Fc.of_body (N := 34) func47 rfl kA rfl rfl ?_
 intro w0
 refine sR (R.alloc zeroValue31 rfl ?_)
 intro b0
 refine aA ?_
 refine nN (sR (R.bld (cs := [.int .i64 1, .int .i64 1, .int .i64 1, .int .i64 0, .int .i64 0, .int .i64 0, .int .i64 0, .int .i64 0, .int .i64 0, .int .i64 0, .int .i64 0, .int .i64 0, .int .i64 0, .int .i64 0, .int .i64 0, .int .i64 0, .int .i64 0, .int .i64 0, .int .i64 0, .int .i64 0, .int .i64 0, .int .i64 0, .int .i64 0, .int .i64 0]) rfl (fun _ => by kernel_rfl) ?_))
 obtain ⟨r9, f3⟩ : ∃ r, r = (k_1e 9 (((fun k_ => ([1, 1, 1, 0, 0, 0, 0, 0, 0, 0, 0, 0, 0, 0, 0, 0, 0, 0, 0, 0, 0, 0, 0, 0] : List Int).getD k_.val 0) : W24))) := ⟨_, rfl⟩
 refine TL.call [] rfl rfl rfl (state_New_c _ hG0 hG1 (9) (((fun k_ => ([1, 1, 1, 0, 0, 0, 0, 0, 0, 0, 0, 0, 0, 0, 0, 0, 0, 0, 0, 0, 0, 0, 0, 0] : List Int).getD k_.val 0) : W24))) ?_
 intro v9 H9 L9 s9 q9
 rw [← f3] at q9
 obtain ⟨k1, k2, k3, k4, k5, k6, rfl, rfl, d8, d9, f4, f5⟩ := q9
 obtain ⟨e0, e1, rfl, k7, k8, d8⟩ := RdS.shape d8
 obtain ⟨e2, e3, rfl, k9, l0, d9⟩ := RdS.shape d9
 obtain ⟨e4, e5, rfl, l1, l2⟩ := OwnS.shape f4
 obtain ⟨e6, e7, rfl, l3, l4⟩ := OwnS.shape f5
 refine TL.shut .hd ?_
 intro h4 c2 f6
 have f7 := OwnS.read f4 c2 f6
 refine TL.shut .hd ?_
 intro h5 c3 f8
 have f9 := OwnS.read (OwnS.mono f5 c2) c3 f8
 refine mA ?_
 refine R.ext rfl rfl rfl ?_
 refine R.ext rfl rfl rfl ?_
 refine R.alloc zeroValue31 rfl ?_
 intro b2
 refine stY (l := (c24 r9.1.1 [.int .i64 (r9.1.2.1.1), sl e0 r9.1.2.1.2.1 e1, sl e2 r9.1.2.1.2.2 e3, sl e4 r9.1.2.2.1 e5, sl e6 r9.1.2.2.2 e7])) (new := (c24 r9.1.1 [.int .i64 (r9.1.2.1.1), sl e0 r9.1.2.1.2.1 e1, sl e2 r9.1.2.1.2.2 e3, sl e4 r9.1.2.2.1 e5, sl e6 r9.1.2.2.2 e7])) .hd sizeOf31 rfl rfl ?_
 refine aA ?_
 refine nN (T.seq (sR (mA ?_)))
 refine nN (T.block (T.loop (ι := Nat × (ZS) × Value × Value × Value × Value) (fun ⟨c8, a0, d0, d1, d2, d3⟩ H' L' ds' => c8 ≤ 3 ∧ Has L' [[(b2, .cells (c24 a0.1 [.int .i64 (a0.2.1.1), d0, d1, d2, d3]).toArray 31)], [(b0, .cells zSt.toArray 31)]] ∧ RdS slotE H' d0 a0.2.1.2.1 ∧ RdS (intE .i64) H' d1 a0.2.1.2.2 ∧ RdS relationE H' d2 a0.2.2.1 ∧ RdS rowE H' d3 a0.2.2.2 ∧ a0 = growS c8 ∧ k_45 r9 (3 - c8) c8 a0 = k_45 r9 (3 - 0) 0 r9.1) (fun ⟨c8, a0, d0, d1, d2, d3⟩ => [(12, .int .i64 (c8 : Int)), (0, .pointer (some ⟨b0, 0, none⟩)), (2, .pointer (some ⟨b2, 0, none⟩)), (3, .int .i64 (r9.2))]) (fun ⟨c8, a0, d0, d1, d2, d3⟩ => 3 - c8) (0, r9.1, .slice e0 r9.1.2.1.2.1.length e1, .slice e2 r9.1.2.1.2.2.length e3, .slice e4 r9.1.2.2.1.length e5, .slice e6 r9.1.2.2.2.length e7) ?_ ?_ ?_))
 exact ⟨oA, (Has.cons .hd (Has.cons .hd Has.nil)), (d8.mono (c2.trans c3)), (d9.mono (c2.trans c3)), (f7.mono c3), f9, (by (subst f3; rfl)), (by rfl)⟩
 exact ⟨rfl, rfl, rfl, rfl, trivial⟩
 intro ⟨c8, a0, d0, d1, d2, d3⟩ σ_l1 H_l1 L_l1 ds_l1 g5 g0
 obtain ⟨hkl1, g0⟩ := g0
 obtain ⟨hLl1, c4, c5, c6, c7, g3, g6⟩ := g0
 obtain ⟨a1, a2, rfl, i4, i0, c4⟩ := RdS.shape c4
 obtain ⟨a3, a4, rfl, i5, i1, c5⟩ := RdS.shape c5
 obtain ⟨a5, a6, rfl, i6, i2, c6⟩ := RdS.shape c6
 obtain ⟨a7, a8, rfl, i7, i3, c7⟩ := RdS.shape c7
 refine T.has hLl1 ?_
 refine sR (R.lss rfl rfl rfl ?_)
 refine nN (T.seq (T.condD rfl (fun c13 => ?_) (fun c13 => ?_)))
 have hltl1 : c8 < 3 := by omega
 refine T.skip (Post.thnN (T.seq ?_))
 refine T.block (T.seq ?_)
 have hSg : StS a0 := by rw [g3]; exact growS_sts c8 oA
 refine T.region (R.ldX (cs := (c24 a0.1 [.int .i64 (a0.2.1.1), .slice a1 a0.2.1.2.1.length a2, .slice a3 a0.2.1.2.2.length a4, .slice a5 a0.2.2.1.length a6, .slice a7 a0.2.2.2.length a8])) (l := (c24 a0.1 [.int .i64 (a0.2.1.1), .slice a1 a0.2.1.2.1.length a2, .slice a3 a0.2.1.2.2.length a4, .slice a5 a0.2.2.1.length a6, .slice a7 a0.2.2.2.length a8])) isAgg31 sizeOf31 rfl rfl .hd rfl rfl ?_)
 obtain ⟨a9, g1⟩ : ∃ r, r = (k_17 a0) := ⟨_, rfl⟩
 refine TL.call [] rfl rfl rfl (state_Grow_c _ ((s9.trans (c2.trans (c3.trans g5))) _ _ hG0) ((s9.trans (c2.trans (c3.trans g5))) _ _ hG1) a0 _ c4 _ c5 _ c6 _ c7 (by assumption)) ?_
 intro v16 H16 L16 g4 q16
 rw [← g1] at q16
 obtain ⟨i8, i9, j0, j1, j2, rfl, rfl, d5, d6, d7, e9⟩ := q16
 obtain ⟨b3, b5, rfl, j3, j4, d5⟩ := RdS.shape d5
 obtain ⟨b6, b7, rfl, j5, j6, d6⟩ := RdS.shape d6
 obtain ⟨b8, b9, rfl, j7, j8, d7⟩ := RdS.shape d7
 obtain ⟨c0, c1, rfl, j9, k0⟩ := OwnS.shape e9
 refine mA ?_
 refine R.ext rfl rfl rfl ?_
 refine R.ext rfl rfl rfl ?_
 refine R.ext rfl rfl rfl ?_
 refine R.alloc zeroValue31 rfl ?_
 intro b4
 refine stY (l := (c24 a9.1.1 [.int .i64 (a9.1.2.1.1), sl b3 a9.1.2.1.2.1 b5, sl b6 a9.1.2.1.2.2 b7, sl b8 a9.1.2.2.1 b9, sl c0 a9.1.2.2.2 c1])) (new := (c24 a9.1.1 [.int .i64 (a9.1.2.1.1), sl b3 a9.1.2.1.2.1 b5, sl b6 a9.1.2.1.2.2 b7, sl b8 a9.1.2.2.1 b9, sl c0 a9.1.2.2.2 c1])) .hd sizeOf31 rfl rfl ?_
 refine aA ?_
 refine aA ?_
 refine TL.shut (.tl .hd) ?_
 intro h3 b1 f1
 have f2 := OwnS.read e9 b1 f1
 refine TL.shut .hd ?_
 intro h6 c9 h7
 have h8 : h6 b4 = some (.cells (c24 a9.1.1 [.int .i64 (a9.1.2.1.1), .slice b3 a9.1.2.1.2.1.length b5, .slice b6 a9.1.2.1.2.2.length b7, .slice b8 a9.1.2.2.1.length b9, .slice c0 a9.1.2.2.2.length c1]).toArray 31) := shut1 h7
 refine nN (T.seq (T.seq (T.cutK (ι := Bool) (fun e8 H' L' ds' => Has L' [[(b2, .cells (c24 a0.1 [.int .i64 (a0.2.1.1), .slice a1 a0.2.1.2.1.length a2, .slice a3 a0.2.1.2.2.length a4, .slice a5 a0.2.2.1.length a6, .slice a7 a0.2.2.2.length a8]).toArray 31)], [(b0, .cells zSt.toArray 31)]] ∧ (if r9.2 ≠ 0 then true else ((decide (a9.2.2 ≠ 0))) : Bool) = e8) (fun e8 => [(0, .pointer (some ⟨b0, 0, none⟩)), (2, .pointer (some ⟨b2, 0, none⟩)), (3, .int .i64 (r9.2)), (4, .pointer (some ⟨b4, 0, none⟩)), (12, .int .i64 (c8 : Int)), (25, .bool (e8))]) ?_ ?_)))
 refine T.region (mA ?_)
 refine R.neq rfl rfl rfl ?_
 refine mA ?_
 refine TL.gsplitD 22 rfl (fun g22 => ?_) (fun g22 => ?_)
 refine oF ?_
 refine oF ?_
 refine R.pkTE rfl rfl cA ?_
 refine nN ?_
 exact ⟨true, HLe.refl _, ⟨(Has.cons .hd (Has.cons .hd Has.nil)), (by rw [if_pos g22])⟩, rfl, rfl, rfl, rfl, rfl, rfl, trivial⟩
 refine mA ?_
 refine R.neq rfl rfl rfl ?_
 refine R.pkFE rfl rfl cA ?_
 refine nN ?_
 exact ⟨(decide (a9.2.2 ≠ 0)), HLe.refl _, ⟨(Has.cons .hd (Has.cons .hd Has.nil)), (by rw [if_neg g22])⟩, rfl, rfl, rfl, rfl, rfl, rfl, trivial⟩
 intro e8 σ_c2 H_c2 L_c2 ds_c2 d4 h9
 obtain ⟨hLc2, g2⟩ := h9
 refine T.has hLc2 ?_
 refine T.cond rfl (fun f0 => ?_) (fun f0 => ?_)
 refine T.set 25 (.bool true) (congrArg Value.bool f0) ?_
 have g7 := g2.trans f0
 try simp only [or_f, or_t, and_f, and_t, decide_eq_true_eq, decide_eq_false_iff_not, Bool.not_eq_true'] at g7
 refine sR (R.ldX (cs := (c24 a0.1 [.int .i64 (a0.2.1.1), .slice a1 a0.2.1.2.1.length a2, .slice a3 a0.2.1.2.2.length a4, .slice a5 a0.2.2.1.length a6, .slice a7 a0.2.2.2.length a8])) (l := (c24 a0.1 [.int .i64 (a0.2.1.1), .slice a1 a0.2.1.2.1.length a2, .slice a3 a0.2.1.2.2.length a4, .slice a5 a0.2.2.1.length a6, .slice a7 a0.2.2.2.length a8])) isAgg31 sizeOf31 rfl rfl .hd rfl rfl ?_)
 refine stY (l := (c24 a0.1 [.int .i64 (a0.2.1.1), sl a1 a0.2.1.2.1 a2, sl a3 a0.2.1.2.2 a4, sl a5 a0.2.2.1 a6, sl a7 a0.2.2.2 a8])) (new := (c24 a0.1 [.int .i64 (a0.2.1.1), sl a1 a0.2.1.2.1 a2, sl a3 a0.2.1.2.2 a4, sl a5 a0.2.2.1 a6, sl a7 a0.2.2.2 a8])) (.tl .hd) sizeOf31 rfl rfl ?_
 refine aA ?_
 refine nN (T.has (Has.cons (.tl .hd) Has.nil) ?_)
 refine T.ret (Post.thnR (Post.blkR (Post.thnR (Post.thnR (Post.blkR (Post.thnR ?_))))))
 have hXl1 : k_45 r9 (3 - 0) 0 r9.1 = .ret ((a0, false)) := by subst g1; rw [← g6, show 3 - c8 = (3 - (c8 + 1)) + 1 by omega, k_45]; rw [LR.seq_go, g2, LR.seq_go, if_t f0]
 have hM : k_2 = (a0, false) := by subst f3; rw [k_2, LR.seq_go, hXl1, LR.on_ret]
 exact finR2 (v := .agg (c24 a0.1 [.int .i64 (a0.2.1.1), sl a1 a0.2.1.2.1 a2, sl a3 a0.2.1.2.2 a4, sl a5 a0.2.2.1 a6, sl a7 a0.2.2.2 a8]).toArray) (v' := .bool false) [] rfl (.cellA (cs := (c24 a0.1 [.int .i64 (a0.2.1.1), sl a1 a0.2.1.2.1 a2, sl a3 a0.2.1.2.2 a4, sl a5 a0.2.2.1 a6, sl a7 a0.2.2.2 a8])) (l := (c24 a0.1 [.int .i64 (a0.2.1.1), sl a1 a0.2.1.2.1 a2, sl a3 a0.2.1.2.2 a4, sl a5 a0.2.2.1 a6, sl a7 a0.2.2.2 a8])) isAgg31 sizeOf31 rfl .hd rfl rfl) (.tmp rfl) (List.sublist_append_left ([] : Own) _) ⟨rfl, sl a1 a0.2.1.2.1 a2, sl a3 a0.2.1.2.2 a4, sl a5 a0.2.2.1 a6, sl a7 a0.2.2.2 a8, by first | (rw [hM]; done) | (rw [hM]; rfl) | rfl, by rw [hM]; exact (c4.mono (g4.trans (b1.trans (c9.trans d4)))), by rw [hM]; exact (c5.mono (g4.trans (b1.trans (c9.trans d4)))), by rw [hM]; exact (c6.mono (g4.trans (b1.trans (c9.trans d4)))), by rw [hM]; exact (c7.mono (g4.trans (b1.trans (c9.trans d4))))⟩
 refine T.set 25 (.bool false) (congrArg Value.bool f0) ?_
 have g7 := g2.trans f0
 try simp only [or_f, or_t, and_f, and_t, decide_eq_true_eq, decide_eq_false_iff_not, Bool.not_eq_true'] at g7
 refine T.skip (Post.thnN (T.region ?_))
 refine R.ldXH (cs := (c24 a9.1.1 [.int .i64 (a9.1.2.1.1), sl b3 a9.1.2.1.2.1 b5, sl b6 a9.1.2.1.2.2 b7, sl b8 a9.1.2.2.1 b9, sl c0 a9.1.2.2.2 c1])) (l := (c24 a9.1.1 [.int .i64 (a9.1.2.1.1), sl b3 a9.1.2.1.2.1 b5, sl b6 a9.1.2.1.2.2 b7, sl b8 a9.1.2.2.1 b9, sl c0 a9.1.2.2.2 c1])) isAgg31 sizeOf31 rfl rfl (d4 _ _ h8) rfl rfl ?_
 refine stY (l := (c24 a9.1.1 [.int .i64 (a9.1.2.1.1), sl b3 a9.1.2.1.2.1 b5, sl b6 a9.1.2.1.2.2 b7, sl b8 a9.1.2.2.1 b9, sl c0 a9.1.2.2.2 c1])) (new := (c24 a9.1.1 [.int .i64 (a9.1.2.1.1), sl b3 a9.1.2.1.2.1 b5, sl b6 a9.1.2.1.2.2 b7, sl b8 a9.1.2.2.1 b9, sl c0 a9.1.2.2.2 c1])) .hd sizeOf31 rfl rfl ?_
 refine TL.nil (Post.blkN ?_)
 refine id (Post.thnN (T.region ?_))
 refine R.addI rfl rfl rfl oA ?_
 refine mA ?_
 refine nN ?_
 exact ⟨(c8 + 1, a9.1, sl b3 a9.1.2.1.2.1 b5, sl b6 a9.1.2.1.2.2 b7, sl b8 a9.1.2.2.1 b9, sl c0 a9.1.2.2.2 c1), (g5.trans (g4.trans (b1.trans (c9.trans d4)))), ⟨oA, (Has.cons .hd (Has.cons .hd Has.nil)), (d5.mono (b1.trans (c9.trans d4))), (d6.mono (b1.trans (c9.trans d4))), (d7.mono (b1.trans (c9.trans d4))), (f2.mono (c9.trans d4)), (by (rw [g1, g3]; rfl)), (by subst g1; rw [← g6, show 3 - c8 = (3 - (c8 + 1)) + 1 by omega, k_45]; rw [LR.seq_go, g2, LR.seq_go, if_f f0])⟩, by show 3 - (c8 + 1) < 3 - c8; omega, rfl, rfl, rfl, rfl, trivial⟩
 refine T.exit (Post.thnE (Post.thnE (Post.blkX ?_)))
 have g8 : k_45 r9 (3 - 0) 0 r9.1 = .go a0 := (g6.symm.trans (by rw [show c8 = 3 by omega, Nat.sub_self, k_45]))
 refine id (Post.thnN (T.seq ?_))
 refine T.draw k_2f kA ?_
 refine vP 1 [0, 2, 3, 4, 5, 6] rfl underlying31 rfl sizeOf29 ?_
 refine Plan.s2 0 2 [2, 3, 4, 5, 6] [0, 3, 4, 5, 6] kA kA kA rfl rfl ?_ ?_
 refine R.ldX (cs := (c24 a0.1 [.int .i64 (a0.2.1.1), sl a1 a0.2.1.2.1 a2, sl a3 a0.2.1.2.2 a4, sl a5 a0.2.2.1 a6, sl a7 a0.2.2.2 a8])) (l := (c24 a0.1 [.int .i64 (a0.2.1.1), sl a1 a0.2.1.2.1 a2, sl a3 a0.2.1.2.2 a4, sl a5 a0.2.2.1 a6, sl a7 a0.2.2.2 a8])) isAgg31 sizeOf31 rfl rfl .hd rfl rfl ?_
 refine eA ?_
 refine Plan.s2 2 5 [3, 4, 5, 6] [2, 3, 4, 6] kA kA kA rfl rfl ?_ ?_
 refine R.ld isAgg29 rfl rfl .hd rfl ?_
 refine eA ?_
 refine vA 3 [4, 5, 6] rfl (fun _ _ h_ => R.len underlying29 rfl rfl (TL.nil h_)) ?_
 refine vA 4 [5, 6] rfl (fun _ _ h_ => R.eql rfl rfl rfl (TL.nil h_)) ?_
 refine Plan.s1 5 [6] kA kA rfl ?_
 refine stY (l := (c24 a0.1 [.int .i64 (a0.2.1.1), sl a1 a0.2.1.2.1 a2, sl a3 a0.2.1.2.2 a4, sl a5 a0.2.2.1 a6, sl a7 a0.2.2.2 a8])) (new := (c24 a0.1 [.int .i64 (a0.2.1.1), sl a1 a0.2.1.2.1 a2, sl a3 a0.2.1.2.2 a4, sl a5 a0.2.2.1 a6, sl a7 a0.2.2.2 a8])) (.tl .hd) sizeOf31 rfl rfl ?_
 refine eB ?_
 rotate_left
 refine stY (l := (c24 a0.1 [.int .i64 (a0.2.1.1), sl a1 a0.2.1.2.1 a2, sl a3 a0.2.1.2.2 a4, sl a5 a0.2.2.1 a6, sl a7 a0.2.2.2 a8])) (new := (c24 a0.1 [.int .i64 (a0.2.1.1), sl a1 a0.2.1.2.1 a2, sl a3 a0.2.1.2.2 a4, sl a5 a0.2.2.1 a6, sl a7 a0.2.2.2 a8])) (.tl .hd) sizeOf31 rfl rfl ?_
 refine eB ?_
 refine Plan.s1 2 [3, 4, 6] kA kA rfl ?_
 refine R.ld isAgg29 rfl rfl .hd rfl ?_
 refine eA ?_
 refine vA 3 [4, 6] rfl (fun _ _ h_ => R.len underlying29 rfl rfl (TL.nil h_)) ?_
 refine vA 4 [6] rfl (fun _ _ h_ => R.eql rfl rfl rfl (TL.nil h_)) ?_
 rotate_left
 refine R.ld isAgg29 rfl rfl .hd rfl ?_
 refine eA ?_
 refine vA 3 [0, 4, 5, 6] rfl (fun _ _ h_ => R.len underlying29 rfl rfl (TL.nil h_)) ?_
 refine vA 4 [0, 5, 6] rfl (fun _ _ h_ => R.eql rfl rfl rfl (TL.nil h_)) ?_
 refine Plan.s1 0 [5, 6] kA kA rfl ?_
 refine R.ldX (cs := (c24 a0.1 [.int .i64 (a0.2.1.1), sl a1 a0.2.1.2.1 a2, sl a3 a0.2.1.2.2 a4, sl a5 a0.2.2.1 a6, sl a7 a0.2.2.2 a8])) (l := (c24 a0.1 [.int .i64 (a0.2.1.1), sl a1 a0.2.1.2.1 a2, sl a3 a0.2.1.2.2 a4, sl a5 a0.2.2.1 a6, sl a7 a0.2.2.2 a8])) isAgg31 sizeOf31 rfl rfl .hd rfl rfl ?_
 refine eA ?_
 refine Plan.s1 5 [6] kA kA rfl ?_
 refine stY (l := (c24 a0.1 [.int .i64 (a0.2.1.1), sl a1 a0.2.1.2.1 a2, sl a3 a0.2.1.2.2 a4, sl a5 a0.2.2.1 a6, sl a7 a0.2.2.2 a8])) (new := (c24 a0.1 [.int .i64 (a0.2.1.1), sl a1 a0.2.1.2.1 a2, sl a3 a0.2.1.2.2 a4, sl a5 a0.2.2.1 a6, sl a7 a0.2.2.2 a8])) (.tl .hd) sizeOf31 rfl rfl ?_
 refine eB ?_
 rotate_left
 all_goals (
  refine vA 6 [] rfl (fun _ _ h_ => aA (TL.nil h_)) ?_
  refine Plan.done (Post.thnN ?_)
  refine T.has (Has.cons (.tl .hd) Has.nil) ?_
  refine T.ret ?_
  have hM : k_2 = (a0, (decide ((a0.2.2.2.length : Int) = 5))) := by subst f3; rw [k_2, LR.seq_go, g8, LR.on_go]
  exact finR2 (v := .agg (c24 a0.1 [.int .i64 (a0.2.1.1), sl a1 a0.2.1.2.1 a2, sl a3 a0.2.1.2.2 a4, sl a5 a0.2.2.1 a6, sl a7 a0.2.2.2 a8]).toArray) (v' := .bool (decide ((a0.2.2.2.length : Int) = 5))) [] rfl (.cellA (cs := (c24 a0.1 [.int .i64 (a0.2.1.1), sl a1 a0.2.1.2.1 a2, sl a3 a0.2.1.2.2 a4, sl a5 a0.2.2.1 a6, sl a7 a0.2.2.2 a8])) (l := (c24 a0.1 [.int .i64 (a0.2.1.1), sl a1 a0.2.1.2.1 a2, sl a3 a0.2.1.2.2 a4, sl a5 a0.2.2.1 a6, sl a7 a0.2.2.2 a8])) isAgg31 sizeOf31 rfl .hd rfl rfl) (.tmp rfl) (List.sublist_append_left ([] : Own) _) ⟨rfl, sl a1 a0.2.1.2.1 a2, sl a3 a0.2.1.2.2 a4, sl a5 a0.2.2.1 a6, sl a7 a0.2.2.2 a8, by first | (rw [hM]; done) | (rw [hM]; rfl) | rfl, by rw [hM]; exact c4, by rw [hM]; exact c5, by rw [hM]; exact c6, by rw [hM]; exact c7⟩)
theorem small_sts : StS k_2.1 := sts_of (by kernel_rfl)
theorem put1_sts : StS (k_d k_2.1 3 (k_c 1 4) []).1 := sts_of (by kernel_rfl)
theorem reap_sts : StS (k_12 (k_d k_2.1 3 (k_c 1 4) []).1 [4]).1 := sts_of (by kernel_rfl)
def k_16  : Bool :=
  LR.seq (k_2) (fun r14 => if (!r14.2) = true then false else (LR.seq (LR.seq (k_d r14.1 3 ((k_c 1 4)) []) (fun r22 => (r22.2, r22.1)) : Int × (ZS)) (fun sc1 => LR.seq (LR.seq (k_d sc1.2 4 ((k_c 1 3)) []) (fun r28 => r28.2) : Int) (fun sc2 => LR.seq (LR.seq (k_d sc1.2 3 ((k_c 1 5)) []) (fun r34 => r34.2) : Int) (fun sc3 => LR.seq (k_12 sc1.2 [4]) (fun r40 => LR.seq (k_9f r40.1 ((k_54 0 0 4))) (fun r46 => if sc1.1 = 0 then (if sc2 = 270 then (if sc3 = 5 then (if r40.2 = 0 then (if (!r46.2) = true then (LR.seq (k_69 sc1.2) (fun r69 => if (r69.length : Int) = 1 then (LR.seq (k_69 r40.1) (fun r75 => (decide ((r75.length : Int) = 0)))) else false)) else false) else false) else false) else false) else false)))))))
theorem windroselaw19_wakes_c (H : Heap) {tG0 : TypeId} (i8 : gF H 0 tG0) {tG1 : TypeId} (i9 : gA H 1 tG1) : Fv Tryz.prog (fnv 9) [] H (.bool k_16) := by
 refine Fc.of_body (N := 79) func9 rfl kA rfl rfl ?_
 intro w0
 refine sR (aA ?_)
 refine nN (sR ?_)
 obtain ⟨c3, f8⟩ : ∃ r, r = k_2 := ⟨_, rfl⟩
 refine R.callp rfl rfl rfl (windroselaw19_small_c _ i8 i9) ?_
 intro v14 H14 d1 q14
 rw [← f8] at q14
 obtain ⟨t1, t2, t3, t4, rfl, j0, j1, j2, j3⟩ := q14
 obtain ⟨i0, i1, rfl, t5, t6, j0⟩ := RdS.shape j0
 obtain ⟨i2, i3, rfl, t7, t8, j1⟩ := RdS.shape j1
 obtain ⟨i4, i5, rfl, t9, u0, j2⟩ := RdS.shape j2
 obtain ⟨i6, i7, rfl, u1, u2, j3⟩ := RdS.shape j3
 have hS14 : StS c3.1 := by rw [f8]; exact small_sts
 refine mA ?_
 refine R.ext rfl rfl rfl ?_
 refine R.ext rfl rfl rfl ?_
 refine R.alloc zeroValue31 rfl ?_
 intro b1
 refine stY (l := (c24 c3.1.1 [.int .i64 (c3.1.2.1.1), sl i0 c3.1.2.1.2.1 i1, sl i2 c3.1.2.1.2.2 i3, sl i4 c3.1.2.2.1 i5, sl i6 c3.1.2.2.2 i7])) (new := (c24 c3.1.1 [.int .i64 (c3.1.2.1.1), sl i0 c3.1.2.1.2.1 i1, sl i2 c3.1.2.1.2.2 i3, sl i4 c3.1.2.2.1 i5, sl i6 c3.1.2.2.2 i7])) .hd sizeOf31 rfl rfl ?_
 refine aA ?_
 refine TL.shut .hd ?_
 intro s3 a3 s4
 have s5 : s3 b1 = some (.cells (c24 c3.1.1 [.int .i64 (c3.1.2.1.1), .slice i0 c3.1.2.1.2.1.length i1, .slice i2 c3.1.2.1.2.2.length i3, .slice i4 c3.1.2.2.1.length i5, .slice i6 c3.1.2.2.2.length i7]).toArray 31) := shut1 s4
 refine nN (T.seq (sR (mA ?_)))
 refine R.not rfl rfl ?_
 refine nN (T.cond rfl (fun j8 => ?_) (fun j8 => ?_))
 refine T.set 18 (.bool true) (congrArg Value.bool j8) ?_
 refine sR (aA ?_)
 refine nN (T.has Has.nil ?_)
 refine T.ret (Post.thnR ?_)
 have hM : k_16 = false := by subst f8; rw [k_16, LR.seq_go, if_t j8]
 rotate_left
 refine T.set 18 (.bool false) (congrArg Value.bool j8) ?_
 refine T.skip (Post.thnN (T.seq ?_))
 refine T.cutK (ι := Int × Nat × (ZS) × Value × Value × Value × Value) (fun ⟨l2, j4, a0, k2, k3, k4, k5⟩ H' L' ds' => Has L' [[(j4, .cells (c24 a0.1 [.int .i64 (a0.2.1.1), k2, k3, k4, k5]).toArray 31)]] ∧ RdS slotE H' k2 a0.2.1.2.1 ∧ RdS (intE .i64) H' k3 a0.2.1.2.2 ∧ RdS relationE H' k4 a0.2.2.1 ∧ RdS rowE H' k5 a0.2.2.2 ∧ (LR.seq (k_d c3.1 3 ((k_c 1 4)) []) (fun a9 => (a9.2, a9.1)) : Int × (ZS)) = (l2, a0)) (fun ⟨l2, j4, a0, k2, k3, k4, k5⟩ => [(4, .int .i64 l2), (3, .pointer (some ⟨j4, 0, none⟩))]) ?_ ?_
 refine T.draw k_2f kA ?_
 refine vA 0 [1, 2, 3, 4, 5, 6, 7, 8] rfl (fun _ _ h_ => R.ldXH (cs := (c24 c3.1.1 [.int .i64 (c3.1.2.1.1), sl i0 c3.1.2.1.2.1 i1, sl i2 c3.1.2.1.2.2 i3, sl i4 c3.1.2.2.1 i5, sl i6 c3.1.2.2.2 i7])) (l := (c24 c3.1.1 [.int .i64 (c3.1.2.1.1), sl i0 c3.1.2.1.2.1 i1, sl i2 c3.1.2.1.2.2 i3, sl i4 c3.1.2.2.1 i5, sl i6 c3.1.2.2.2 i7])) isAgg31 sizeOf31 rfl rfl s5 rfl rfl (TL.nil h_)) ?_
 refine vA 1 [2, 3, 4, 5, 6, 7, 8] rfl (fun _ _ h_ => R.callv rfl rfl rfl (k_b2 _ (1) (4)) (TL.nil h_)) ?_
 refine Plan.s2 2 6 [3, 4, 5, 6, 7, 8] [2, 3, 4, 5, 7, 8] kA kA kA rfl rfl ?_ ?_
 obtain ⟨a9, l8⟩ : ∃ r, r = (k_d c3.1 3 ((k_c 1 4)) []) := ⟨_, rfl⟩
 refine R.callp rfl rfl rfl (k_b3 _ ((d1.trans a3) _ _ i8) ((d1.trans a3) _ _ i9) c3.1 _ (j0.mono a3) _ (j1.mono a3) _ (j2.mono a3) _ (j3.mono a3) (3) ((k_c 1 4)) _ [] RdS.nil (by assumption) bA) ?_
 intro v22 H22 p2 p3
 rw [← l8] at p3
 obtain ⟨p5, p6, p7, p8, rfl, f9, g0, g1, g2⟩ := p3
 obtain ⟨g3, g4, rfl, p9, q0, f9⟩ := RdS.shape f9
 obtain ⟨g5, g6, rfl, q1, q2, g0⟩ := RdS.shape g0
 obtain ⟨g7, g8, rfl, q3, q4, g1⟩ := RdS.shape g1
 obtain ⟨g9, h0, rfl, q5, q6, g2⟩ := RdS.shape g2
 refine TL.nil (Plan.e1 (p2) ?_)
 refine vM 3 [4, 5, 6, 7, 8] rfl rfl cA ?_
 refine vA 4 [5, 6, 7, 8] rfl (fun _ _ h_ => R.ext rfl rfl rfl (TL.nil h_)) ?_
 refine vA 5 [6, 7, 8] rfl (fun _ _ h_ => R.ext rfl rfl rfl (TL.nil h_)) ?_
 refine Plan.s1 6 [7, 8] kA kA rfl ?_
 refine R.alloc zeroValue31 rfl ?_
 intro b3
 refine eA ?_
 rotate_left
 refine R.alloc zeroValue31 rfl ?_
 intro b3
 refine eA ?_
 refine Plan.s1 2 [3, 4, 5, 7, 8] kA kA rfl ?_
 obtain ⟨a9, l8⟩ : ∃ r, r = (k_d c3.1 3 ((k_c 1 4)) []) := ⟨_, rfl⟩
 refine R.callp rfl rfl rfl (k_b3 _ ((d1.trans a3) _ _ i8) ((d1.trans a3) _ _ i9) c3.1 _ (j0.mono a3) _ (j1.mono a3) _ (j2.mono a3) _ (j3.mono a3) (3) ((k_c 1 4)) _ [] RdS.nil (by assumption) bA) ?_
 intro v22 H22 p2 p3
 rw [← l8] at p3
 obtain ⟨p5, p6, p7, p8, rfl, f9, g0, g1, g2⟩ := p3
 obtain ⟨g3, g4, rfl, p9, q0, f9⟩ := RdS.shape f9
 obtain ⟨g5, g6, rfl, q1, q2, g0⟩ := RdS.shape g0
 obtain ⟨g7, g8, rfl, q3, q4, g1⟩ := RdS.shape g1
 obtain ⟨g9, h0, rfl, q5, q6, g2⟩ := RdS.shape g2
 refine TL.nil (Plan.e1 (p2) ?_)
 refine vM 3 [4, 5, 7, 8] rfl rfl cA ?_
 refine vA 4 [5, 7, 8] rfl (fun _ _ h_ => R.ext rfl rfl rfl (TL.nil h_)) ?_
 refine vA 5 [7, 8] rfl (fun _ _ h_ => R.ext rfl rfl rfl (TL.nil h_)) ?_
 rotate_left
 intro ⟨l2, j4, a0, k2, k3, k4, k5⟩ σ_c1 H_c1 L_c1 ds_c1 c6 s6
 obtain ⟨hLc1, c7, c8, c9, d0, h9⟩ := s6
 obtain ⟨b0, b2, rfl, w2, u3, c7⟩ := RdS.shape c7
 obtain ⟨b4, b6, rfl, w3, u4, c8⟩ := RdS.shape c8
 obtain ⟨b8, c0, rfl, w4, u5, c9⟩ := RdS.shape c9
 obtain ⟨c1, c2, rfl, w5, u6, d0⟩ := RdS.shape d0
 refine T.has hLc1 ?_
 refine T.seq (T.cutK (ι := Int) (fun l9 H' L' ds' => Has L' [[(j4, .cells (c24 a0.1 [.int .i64 (a0.2.1.1), .slice b0 a0.2.1.2.1.length b2, .slice b4 a0.2.1.2.2.length b6, .slice b8 a0.2.2.1.length c0, .slice c1 a0.2.2.2.length c2]).toArray 31)]] ∧ (LR.seq (k_d a0 4 ((k_c 1 3)) []) (fun a7 => a7.2) : Int) = l9) (fun l9 => [(3, .pointer (some ⟨j4, 0, none⟩)), (4, .int .i64 l2), (6, .int .i64 l9)]) ?_ ?_)
 have k6 : a0 = (k_d k_2.1 3 (k_c 1 4) []).1 := by
   have h := h9
   rw [LR.seq_go, f8] at h
   exact (congrArg Prod.snd h).symm
 have q8 : StS a0 := by rw [k6]; exact put1_sts
 refine T.draw k_2f kA ?_
 refine vA 1 [0, 2, 3, 4, 5, 6, 7, 8] rfl (fun _ _ h_ => R.callv rfl rfl rfl (k_b2 _ (1) (3)) (TL.nil h_)) ?_
 refine Plan.s2 0 6 [2, 3, 4, 5, 6, 7, 8] [0, 2, 3, 4, 5, 7, 8] kA kA kA rfl rfl ?_ ?_
 refine R.ldX (cs := (c24 a0.1 [.int .i64 (a0.2.1.1), sl b0 a0.2.1.2.1 b2, sl b4 a0.2.1.2.2 b6, sl b8 a0.2.2.1 c0, sl c1 a0.2.2.2 c2])) (l := (c24 a0.1 [.int .i64 (a0.2.1.1), sl b0 a0.2.1.2.1 b2, sl b4 a0.2.1.2.2 b6, sl b8 a0.2.2.1 c0, sl c1 a0.2.2.2 c2])) isAgg31 sizeOf31 rfl rfl .hd rfl rfl ?_
 refine eA ?_
 refine Plan.s2 2 6 [3, 4, 5, 6, 7, 8] [2, 3, 4, 5, 7, 8] kA kA kA rfl rfl ?_ ?_
 obtain ⟨a7, j9⟩ : ∃ r, r = (k_d a0 4 ((k_c 1 3)) []) := ⟨_, rfl⟩
 refine R.callp rfl rfl rfl (k_b3 _ ((d1.trans (a3.trans c6)) _ _ i8) ((d1.trans (a3.trans c6)) _ _ i9) a0 _ c7 _ c8 _ c9 _ d0 (4) ((k_c 1 3)) _ [] RdS.nil (by assumption) bA) ?_
 intro v28 H28 l3 l4
 rw [← j9] at l4
 obtain ⟨m0, m1, m2, m3, rfl, d2, d3, d4, d5⟩ := l4
 obtain ⟨d6, d7, rfl, m4, m5, d2⟩ := RdS.shape d2
 obtain ⟨d8, d9, rfl, m6, m7, d3⟩ := RdS.shape d3
 obtain ⟨e0, e2, rfl, m8, m9, d4⟩ := RdS.shape d4
 obtain ⟨e3, e4, rfl, n0, n1, d5⟩ := RdS.shape d5
 refine TL.nil (Plan.e1 (l3) ?_)
 refine vM 3 [4, 5, 6, 7, 8] rfl rfl cA ?_
 refine vA 4 [5, 6, 7, 8] rfl (fun _ _ h_ => R.ext rfl rfl rfl (TL.nil h_)) ?_
 refine vA 5 [6, 7, 8] rfl (fun _ _ h_ => R.ext rfl rfl rfl (TL.nil h_)) ?_
 refine Plan.s1 6 [7, 8] kA kA rfl ?_
 refine R.alloc zeroValue31 rfl ?_
 intro b5
 refine eA ?_
 refine Plan.s1 7 [8] kA kA rfl ?_
 refine stY (l := (c24 a7.1.1 [.int .i64 (a7.1.2.1.1), sl d6 a7.1.2.1.2.1 d7, sl d8 a7.1.2.1.2.2 d9, sl e0 a7.1.2.2.1 e2, sl e3 a7.1.2.2.2 e4])) (new := (c24 a7.1.1 [.int .i64 (a7.1.2.1.1), sl d6 a7.1.2.1.2.1 d7, sl d8 a7.1.2.1.2.2 d9, sl e0 a7.1.2.2.1 e2, sl e3 a7.1.2.2.2 e4])) .hd sizeOf31 rfl rfl ?_
 refine eB ?_
 refine vA 8 [] rfl (fun _ _ h_ => aA (TL.nil h_)) ?_
 refine Plan.done (Post.thnN ?_)
 exact ⟨a7.2, l3, ⟨(Has.cons (.tl .hd) Has.nil), (by subst j9; rw [LR.seq_go])⟩, rfl, rfl, rfl, trivial⟩
 refine R.alloc zeroValue31 rfl ?_
 intro b5
 rotate_left
 refine R.alloc zeroValue31 rfl ?_
 intro b5
 refine eA ?_
 refine Plan.s1 0 [2, 3, 4, 5, 7, 8] kA kA rfl ?_
 refine R.ldX (cs := (c24 a0.1 [.int .i64 (a0.2.1.1), sl b0 a0.2.1.2.1 b2, sl b4 a0.2.1.2.2 b6, sl b8 a0.2.2.1 c0, sl c1 a0.2.2.2 c2])) (l := (c24 a0.1 [.int .i64 (a0.2.1.1), sl b0 a0.2.1.2.1 b2, sl b4 a0.2.1.2.2 b6, sl b8 a0.2.2.1 c0, sl c1 a0.2.2.2 c2])) isAgg31 sizeOf31 rfl rfl (.tl .hd) rfl rfl ?_
 rotate_left
 intro l9 σ_c2 H_c2 L_c2 ds_c2 a6 s7
 obtain ⟨hLc2, l0⟩ := s7
 refine T.has hLc2 ?_
 refine T.seq (T.cutK (ι := Int) (fun p1 H' L' ds' => Has L' [[(j4, .cells (c24 a0.1 [.int .i64 (a0.2.1.1), .slice b0 a0.2.1.2.1.length b2, .slice b4 a0.2.1.2.2.length b6, .slice b8 a0.2.2.1.length c0, .slice c1 a0.2.2.2.length c2]).toArray 31)]] ∧ (LR.seq (k_d a0 3 ((k_c 1 5)) []) (fun a8 => a8.2) : Int) = p1) (fun p1 => [(3, .pointer (some ⟨j4, 0, none⟩)), (4, .int .i64 l2), (6, .int .i64 l9), (8, .int .i64 p1)]) ?_ ?_)
 have k6 : a0 = (k_d k_2.1 3 (k_c 1 4) []).1 := by
   have h := h9
   rw [LR.seq_go, f8] at h
   exact (congrArg Prod.snd h).symm
 have q8 : StS a0 := by rw [k6]; exact put1_sts
 refine T.draw k_2f kA ?_
 refine vA 1 [0, 2, 3, 4, 5, 6, 7, 8] rfl (fun _ _ h_ => R.callv rfl rfl rfl (k_b2 _ (1) (5)) (TL.nil h_)) ?_
 refine Plan.s2 0 6 [2, 3, 4, 5, 6, 7, 8] [0, 2, 3, 4, 5, 7, 8] kA kA kA rfl rfl ?_ ?_
 refine R.ldX (cs := (c24 a0.1 [.int .i64 (a0.2.1.1), sl b0 a0.2.1.2.1 b2, sl b4 a0.2.1.2.2 b6, sl b8 a0.2.2.1 c0, sl c1 a0.2.2.2 c2])) (l := (c24 a0.1 [.int .i64 (a0.2.1.1), sl b0 a0.2.1.2.1 b2, sl b4 a0.2.1.2.2 b6, sl b8 a0.2.2.1 c0, sl c1 a0.2.2.2 c2])) isAgg31 sizeOf31 rfl rfl .hd rfl rfl ?_
 refine eA ?_
 refine Plan.s2 2 6 [3, 4, 5, 6, 7, 8] [2, 3, 4, 5, 7, 8] kA kA kA rfl rfl ?_ ?_
 obtain ⟨a8, k0⟩ : ∃ r, r = (k_d a0 3 ((k_c 1 5)) []) := ⟨_, rfl⟩
 refine R.callp rfl rfl rfl (k_b3 _ ((d1.trans (a3.trans (c6.trans a6))) _ _ i8) ((d1.trans (a3.trans (c6.trans a6))) _ _ i9) a0 _ (c7.mono a6) _ (c8.mono a6) _ (c9.mono a6) _ (d0.mono a6) (3) ((k_c 1 5)) _ [] RdS.nil (by assumption) bA) ?_
 intro v34 H34 l5 l6
 rw [← k0] at l6
 obtain ⟨n2, n3, n4, n5, rfl, e5, e6, e7, e8⟩ := l6
 obtain ⟨e9, f0, rfl, n6, n7, e5⟩ := RdS.shape e5
 obtain ⟨f1, f2, rfl, n8, n9, e6⟩ := RdS.shape e6
 obtain ⟨f3, f4, rfl, o0, o1, e7⟩ := RdS.shape e7
 obtain ⟨f5, f6, rfl, o2, o3, e8⟩ := RdS.shape e8
 refine TL.nil (Plan.e1 (l5) ?_)
 refine vM 3 [4, 5, 6, 7, 8] rfl rfl cA ?_
 refine vA 4 [5, 6, 7, 8] rfl (fun _ _ h_ => R.ext rfl rfl rfl (TL.nil h_)) ?_
 refine vA 5 [6, 7, 8] rfl (fun _ _ h_ => R.ext rfl rfl rfl (TL.nil h_)) ?_
 refine Plan.s1 6 [7, 8] kA kA rfl ?_
 refine R.alloc zeroValue31 rfl ?_
 intro b7
 refine eA ?_
 refine Plan.s1 7 [8] kA kA rfl ?_
 refine stY (l := (c24 a8.1.1 [.int .i64 (a8.1.2.1.1), sl e9 a8.1.2.1.2.1 f0, sl f1 a8.1.2.1.2.2 f2, sl f3 a8.1.2.2.1 f4, sl f5 a8.1.2.2.2 f6])) (new := (c24 a8.1.1 [.int .i64 (a8.1.2.1.1), sl e9 a8.1.2.1.2.1 f0, sl f1 a8.1.2.1.2.2 f2, sl f3 a8.1.2.2.1 f4, sl f5 a8.1.2.2.2 f6])) .hd sizeOf31 rfl rfl ?_
 refine eB ?_
 refine vA 8 [] rfl (fun _ _ h_ => aA (TL.nil h_)) ?_
 refine Plan.done (Post.thnN ?_)
 exact ⟨a8.2, l5, ⟨(Has.cons (.tl .hd) Has.nil), (by subst k0; rw [LR.seq_go])⟩, rfl, rfl, rfl, rfl, trivial⟩
 refine R.alloc zeroValue31 rfl ?_
 intro b7
 rotate_left
 refine R.alloc zeroValue31 rfl ?_
 intro b7
 refine eA ?_
 refine Plan.s1 0 [2, 3, 4, 5, 7, 8] kA kA rfl ?_
 refine R.ldX (cs := (c24 a0.1 [.int .i64 (a0.2.1.1), sl b0 a0.2.1.2.1 b2, sl b4 a0.2.1.2.2 b6, sl b8 a0.2.2.1 c0, sl c1 a0.2.2.2 c2])) (l := (c24 a0.1 [.int .i64 (a0.2.1.1), sl b0 a0.2.1.2.1 b2, sl b4 a0.2.1.2.2 b6, sl b8 a0.2.2.1 c0, sl c1 a0.2.2.2 c2])) isAgg31 sizeOf31 rfl rfl (.tl .hd) rfl rfl ?_
 rotate_left
 intro p1 σ_c3 H_c3 L_c3 ds_c3 f7 s8
 obtain ⟨hLc3, l1⟩ := s8
 refine T.has hLc3 ?_
 refine T.seq ?_
 have k6 : a0 = (k_d k_2.1 3 (k_c 1 4) []).1 := by
   have h := h9
   rw [LR.seq_go, f8] at h
   exact (congrArg Prod.snd h).symm
 have q8 : StS a0 := by rw [k6]; exact put1_sts
 refine T.region (R.ldX (cs := (c24 a0.1 [.int .i64 (a0.2.1.1), .slice b0 a0.2.1.2.1.length b2, .slice b4 a0.2.1.2.2.length b6, .slice b8 a0.2.2.1.length c0, .slice c1 a0.2.2.2.length c2])) (l := (c24 a0.1 [.int .i64 (a0.2.1.1), .slice b0 a0.2.1.2.1.length b2, .slice b4 a0.2.1.2.2.length b6, .slice b8 a0.2.2.1.length c0, .slice c1 a0.2.2.2.length c2])) isAgg31 sizeOf31 rfl rfl .hd rfl rfl ?_)
 refine R.bs rfl (k_4 underlying25 sizeOf3 zeroValue3 rfl rfl) ?_
 intro b39
 have w39 := lit1 (E := (intE .i64)) (e := 3) (H := H_c3) (b := b39) (y := 4) (a := [.int .i64 4]) rfl
 refine TL.shut .hd ?_
 intro HF39_2 c4 r6
 have r7 := OwnS.read w39 c4 r6
 obtain ⟨a5, j5⟩ : ∃ r, r = (k_12 a0 [4]) := ⟨_, rfl⟩
 refine TL.call [] rfl rfl rfl (state_Reap_c _ ((d1.trans (a3.trans (c6.trans (a6.trans (f7.trans c4))))) _ _ i8) ((d1.trans (a3.trans (c6.trans (a6.trans (f7.trans c4))))) _ _ i9) a0 _ (c7.mono (a6.trans (f7.trans c4))) _ (c8.mono (a6.trans (f7.trans c4))) _ (c9.mono (a6.trans (f7.trans c4))) _ (d0.mono (a6.trans (f7.trans c4))) _ [4] r7 (by assumption) bA) ?_
 intro v40 H40 L40 k7 q40
 rw [← j5] at q40
 obtain ⟨u7, u8, u9, v0, v1, v2, rfl, rfl, j6, j7, o4, o5⟩ := q40
 obtain ⟨h1, h2, rfl, v3, v4, j6⟩ := RdS.shape j6
 obtain ⟨h3, h4, rfl, v5, v6, j7⟩ := RdS.shape j7
 obtain ⟨h5, h6, rfl, v7, v8⟩ := OwnS.shape o4
 obtain ⟨h7, h8, rfl, v9, w1⟩ := OwnS.shape o5
 have hS40 : StS a5.1 := by rw [j5, k6]; exact reap_sts
 refine mA ?_
 refine R.ext rfl rfl rfl ?_
 refine R.ext rfl rfl rfl ?_
 refine R.alloc zeroValue31 rfl ?_
 intro b9
 refine stY (l := (c24 a5.1.1 [.int .i64 (a5.1.2.1.1), sl h1 a5.1.2.1.2.1 h2, sl h3 a5.1.2.1.2.2 h4, sl h5 a5.1.2.2.1 h6, sl h7 a5.1.2.2.2 h8])) (new := (c24 a5.1.1 [.int .i64 (a5.1.2.1.1), sl h1 a5.1.2.1.2.1 h2, sl h3 a5.1.2.1.2.2 h4, sl h5 a5.1.2.2.1 h6, sl h7 a5.1.2.2.2 h8])) .hd sizeOf31 rfl rfl ?_
 refine aA ?_
 refine TL.shut (.tl .hd) ?_
 intro r9 a2 o8
 have k8 := OwnS.read o4 a2 o8
 refine TL.shut (.tl .hd) ?_
 intro s0 a1 o9
 have k9 := OwnS.read (OwnS.mono o5 a2) a1 o9
 refine TL.shut .hd ?_
 intro s9 c5 t0
 have q9 : s9 b9 = some (.cells (c24 a5.1.1 [.int .i64 (a5.1.2.1.1), .slice h1 a5.1.2.1.2.1.length h2, .slice h3 a5.1.2.1.2.2.length h4, .slice h5 a5.1.2.2.1.length h6, .slice h7 a5.1.2.2.2.length h8]).toArray 31) := shut1 t0
 refine TL.shut .hd ?_
 intro r1 a4 r2
 have r3 : r1 j4 = some (.cells (c24 a0.1 [.int .i64 (a0.2.1.1), .slice b0 a0.2.1.2.1.length b2, .slice b4 a0.2.1.2.2.length b6, .slice b8 a0.2.2.1.length c0, .slice c1 a0.2.2.2.length c2]).toArray 31) := shut1 r2
 refine nN (T.seq ?_)
 have k6 : a0 = (k_d k_2.1 3 (k_c 1 4) []).1 := by
   have h := h9
   rw [LR.seq_go, f8] at h
   exact (congrArg Prod.snd h).symm
 have q8 : StS a0 := by rw [k6]; exact put1_sts
 refine T.draw k_2f kA ?_
 refine vA 0 [1, 2, 3, 4, 5, 6, 7] rfl (fun _ _ h_ => R.ldXH (cs := (c24 a5.1.1 [.int .i64 (a5.1.2.1.1), sl h1 a5.1.2.1.2.1 h2, sl h3 a5.1.2.1.2.2 h4, sl h5 a5.1.2.2.1 h6, sl h7 a5.1.2.2.2 h8])) (l := (c24 a5.1.1 [.int .i64 (a5.1.2.1.1), sl h1 a5.1.2.1.2.1 h2, sl h3 a5.1.2.1.2.2 h4, sl h5 a5.1.2.2.1 h6, sl h7 a5.1.2.2.2 h8])) isAgg31 sizeOf31 rfl rfl (a4 _ _ q9) rfl rfl (TL.nil h_)) ?_
 refine vA 1 [2, 3, 4, 5, 6, 7] rfl (fun _ _ h_ => R.callv rfl rfl rfl (windroseref01_Made_c _ (0) (0) (4)) (TL.nil h_)) ?_
 obtain ⟨r46, k1⟩ : ∃ r, r = (k_9f a5.1 ((k_54 0 0 4))) := ⟨_, rfl⟩
 refine vA 2 [3, 4, 5, 6, 7] rfl (fun _ _ h_ => R.callv (v := .tuple #[.int .i64 r46.1, .bool r46.2]) rfl rfl rfl (by rw [k1]; exact state_Alive_c _ ((d1.trans (a3.trans (c6.trans (a6.trans (f7.trans (c4.trans (k7.trans (a2.trans (a1.trans (c5.trans a4)))))))))) _ _ i8) ((d1.trans (a3.trans (c6.trans (a6.trans (f7.trans (c4.trans (k7.trans (a2.trans (a1.trans (c5.trans a4)))))))))) _ _ i9) a5.1 _ (j6.mono (a2.trans (a1.trans (c5.trans a4)))) _ (j7.mono (a2.trans (a1.trans (c5.trans a4)))) _ (k8.mono (a1.trans (c5.trans a4))) _ (k9.mono (c5.trans a4)) ((k_54 0 0 4)) (by assumption)) (TL.nil h_)) ?_
 refine vM 3 [4, 5, 6, 7] rfl rfl cA ?_
 refine vA 4 [5, 6, 7] rfl (fun _ _ h_ => R.ext rfl rfl rfl (TL.nil h_)) ?_
 refine vA 5 [6, 7] rfl (fun _ _ h_ => R.ext rfl rfl rfl (TL.nil h_)) ?_
 refine vA 6 [7] rfl (fun _ _ h_ => aA (TL.nil h_)) ?_
 refine vA 7 [] rfl (fun _ _ h_ => aA (TL.nil h_)) ?_
 refine Plan.done (Post.thnN ?_)
 refine T.seq ?_
 have k6 : a0 = (k_d k_2.1 3 (k_c 1 4) []).1 := by
   have h := h9
   rw [LR.seq_go, f8] at h
   exact (congrArg Prod.snd h).symm
 have q8 : StS a0 := by rw [k6]; exact put1_sts
 refine T.region (mA ?_)
 refine R.eql rfl rfl rfl ?_
 refine mA ?_
 refine TL.gsplitD 51 rfl (fun l7 => ?_) (fun l7 => ?_)
 refine mA ?_
 refine R.eql rfl rfl rfl ?_
 refine R.pkTE rfl rfl cA ?_
 refine mA ?_
 refine TL.gsplitD 55 rfl (fun o6 => ?_) (fun o6 => ?_)
 refine mA ?_
 refine R.eql rfl rfl rfl ?_
 refine R.pkTE rfl rfl cA ?_
 refine mA ?_
 refine TL.gsplitD 59 rfl (fun p0 => ?_) (fun p0 => ?_)
 refine mA ?_
 refine R.eql rfl rfl rfl ?_
 refine R.pkTE rfl rfl cA ?_
 refine mA ?_
 refine TL.gsplitD 63 rfl (fun p4 => ?_) (fun p4 => ?_)
 refine mA ?_
 refine R.not rfl rfl ?_
 refine R.pkTE rfl rfl cA ?_
 refine mA ?_
 refine TL.gsplit 67 rfl (fun r0 => ?_) (fun r0 => ?_)
 refine R.ldXH (cs := (c24 a0.1 [.int .i64 (a0.2.1.1), sl b0 a0.2.1.2.1 b2, sl b4 a0.2.1.2.2 b6, sl b8 a0.2.2.1 c0, sl c1 a0.2.2.2 c2])) (l := (c24 a0.1 [.int .i64 (a0.2.1.1), sl b0 a0.2.1.2.1 b2, sl b4 a0.2.1.2.2 b6, sl b8 a0.2.2.1 c0, sl c1 a0.2.2.2 c2])) isAgg31 sizeOf31 rfl rfl r3 rfl rfl ?_
 obtain ⟨r69, q7⟩ : ∃ r, r = (k_69 a0) := ⟨_, rfl⟩
 refine TL.call [] rfl rfl rfl (state_Held_c _ ((d1.trans (a3.trans (c6.trans (a6.trans (f7.trans (c4.trans (k7.trans (a2.trans (a1.trans (c5.trans a4)))))))))) _ _ i8) ((d1.trans (a3.trans (c6.trans (a6.trans (f7.trans (c4.trans (k7.trans (a2.trans (a1.trans (c5.trans a4)))))))))) _ _ i9) a0 _ (c7.mono (a6.trans (f7.trans (c4.trans (k7.trans (a2.trans (a1.trans (c5.trans a4)))))))) _ (c8.mono (a6.trans (f7.trans (c4.trans (k7.trans (a2.trans (a1.trans (c5.trans a4)))))))) _ (c9.mono (a6.trans (f7.trans (c4.trans (k7.trans (a2.trans (a1.trans (c5.trans a4)))))))) _ (d0.mono (a6.trans (f7.trans (c4.trans (k7.trans (a2.trans (a1.trans (c5.trans a4)))))))) (by assumption)) ?_
 intro v69 H69 L69 o7 q69
 rw [← q7] at q69
 obtain ⟨w6, w7, rfl, rfl, r4⟩ := q69
 obtain ⟨w8, w9, rfl, x0, x1⟩ := OwnS.shape r4
 refine R.len underlying36 rfl rfl ?_
 refine R.eql rfl rfl rfl ?_
 refine R.pkTE rfl rfl cA ?_
 refine mA ?_
 refine TL.gsplitD 73 rfl (fun g73 => ?_) (fun g73 => ?_)
 refine R.ldXH (cs := (c24 a5.1.1 [.int .i64 (a5.1.2.1.1), sl h1 a5.1.2.1.2.1 h2, sl h3 a5.1.2.1.2.2 h4, sl h5 a5.1.2.2.1 h6, sl h7 a5.1.2.2.2 h8])) (l := (c24 a5.1.1 [.int .i64 (a5.1.2.1.1), sl h1 a5.1.2.1.2.1 h2, sl h3 a5.1.2.1.2.2 h4, sl h5 a5.1.2.2.1 h6, sl h7 a5.1.2.2.2 h8])) isAgg31 sizeOf31 rfl rfl ((a4.trans o7) _ _ q9) rfl rfl ?_
 obtain ⟨r75, r8⟩ : ∃ r, r = (k_69 a5.1) := ⟨_, rfl⟩
 refine TL.call [] rfl rfl rfl (state_Held_c _ ((d1.trans (a3.trans (c6.trans (a6.trans (f7.trans (c4.trans (k7.trans (a2.trans (a1.trans (c5.trans (a4.trans o7))))))))))) _ _ i8) ((d1.trans (a3.trans (c6.trans (a6.trans (f7.trans (c4.trans (k7.trans (a2.trans (a1.trans (c5.trans (a4.trans o7))))))))))) _ _ i9) a5.1 _ (j6.mono (a2.trans (a1.trans (c5.trans (a4.trans o7))))) _ (j7.mono (a2.trans (a1.trans (c5.trans (a4.trans o7))))) _ (k8.mono (a1.trans (c5.trans (a4.trans o7)))) _ (k9.mono (c5.trans (a4.trans o7))) (by assumption)) ?_
 intro v75 H75 L75 s75 q75
 rw [← r8] at q75
 obtain ⟨x2, x3, rfl, rfl, r5⟩ := q75
 obtain ⟨x4, x5, rfl, x6, x7⟩ := OwnS.shape r5
 refine R.len underlying36 rfl rfl ?_
 refine R.eql rfl rfl rfl ?_
 refine R.pkTE rfl rfl cA ?_
 refine aA ?_
 refine nN (T.has Has.nil ?_)
 refine T.ret ?_
 have hM : k_16 = (decide ((r75.length : Int) = 0)) := by subst r8; subst q7; subst k1; subst j5; subst f8; rw [k_16, LR.seq_go, if_f j8, h9, LR.seq_go, l0, LR.seq_go, l1, LR.seq_go, LR.seq_go, LR.seq_go, if_pos l7, if_pos o6, if_pos p0, if_pos p4, if_t r0, LR.seq_go, if_pos g73, LR.seq_go]
 exact fin1L (v := .bool (decide ((r75.length : Int) = 0))) [] rfl rfl (List.Sublist.refl _) ⟨rfl, by first | (rw [hM]; done) | (rw [hM]; rfl) | rfl⟩
 refine oF ?_
 refine oF ?_
 refine oF ?_
 refine oF ?_
 refine R.pkFE rfl rfl cA ?_
 refine aA ?_
 refine nN (T.has Has.nil ?_)
 refine T.ret ?_
 have hM : k_16 = false := by subst q7; subst k1; subst j5; subst f8; rw [k_16, LR.seq_go, if_f j8, h9, LR.seq_go, l0, LR.seq_go, l1, LR.seq_go, LR.seq_go, LR.seq_go, if_pos l7, if_pos o6, if_pos p0, if_pos p4, if_t r0, LR.seq_go, if_neg g73]
 rotate_left
 refine oF ?_
 refine oF ?_
 refine oF ?_
 refine oF ?_
 refine R.pkFE rfl rfl cA ?_
 refine mA ?_
 refine oF ?_
 refine oF ?_
 refine oF ?_
 refine oF ?_
 refine R.pkFE rfl rfl cA ?_
 refine aA ?_
 refine nN (T.has Has.nil ?_)
 refine T.ret ?_
 have hM : k_16 = false := by subst k1; subst j5; subst f8; rw [k_16, LR.seq_go, if_f j8, h9, LR.seq_go, l0, LR.seq_go, l1, LR.seq_go, LR.seq_go, LR.seq_go, if_pos l7, if_pos o6, if_pos p0, if_pos p4, if_f r0]
 rotate_left
 refine oF ?_
 refine oF ?_
 refine R.pkFE rfl rfl cA ?_
 refine mA ?_
 refine oF ?_
 refine oF ?_
 refine oF ?_
 refine oF ?_
 refine R.pkFE rfl rfl cA ?_
 refine mA ?_
 refine oF ?_
 refine oF ?_
 refine oF ?_
 refine oF ?_
 refine R.pkFE rfl rfl cA ?_
 refine aA ?_
 refine nN (T.has Has.nil ?_)
 refine T.ret ?_
 have hM : k_16 = false := by subst k1; subst j5; subst f8; rw [k_16, LR.seq_go, if_f j8, h9, LR.seq_go, l0, LR.seq_go, l1, LR.seq_go, LR.seq_go, LR.seq_go, if_pos l7, if_pos o6, if_pos p0, if_neg p4]
 rotate_left
 refine oF ?_
 refine oF ?_
 refine R.pkFE rfl rfl cA ?_
 refine mA ?_
 refine oF ?_
 refine oF ?_
 refine R.pkFE rfl rfl cA ?_
 refine mA ?_
 refine oF ?_
 refine oF ?_
 refine oF ?_
 refine oF ?_
 refine R.pkFE rfl rfl cA ?_
 refine mA ?_
 refine oF ?_
 refine oF ?_
 refine oF ?_
 refine oF ?_
 refine R.pkFE rfl rfl cA ?_
 refine aA ?_
 refine nN (T.has Has.nil ?_)
 refine T.ret ?_
 have hM : k_16 = false := by subst k1; subst j5; subst f8; rw [k_16, LR.seq_go, if_f j8, h9, LR.seq_go, l0, LR.seq_go, l1, LR.seq_go, LR.seq_go, LR.seq_go, if_pos l7, if_pos o6, if_neg p0]
 rotate_left
 refine oF ?_
 refine oF ?_
 refine R.pkFE rfl rfl cA ?_
 refine mA ?_
 refine oF ?_
 refine oF ?_
 refine R.pkFE rfl rfl cA ?_
 refine mA ?_
 refine oF ?_
 refine oF ?_
 refine R.pkFE rfl rfl cA ?_
 refine mA ?_
 refine oF ?_
 refine oF ?_
 refine oF ?_
 refine oF ?_
 refine R.pkFE rfl rfl cA ?_
 refine mA ?_
 refine oF ?_
 refine oF ?_
 refine oF ?_
 refine oF ?_
 refine R.pkFE rfl rfl cA ?_
 refine aA ?_
 refine nN (T.has Has.nil ?_)
 refine T.ret ?_
 have hM : k_16 = false := by subst k1; subst j5; subst f8; rw [k_16, LR.seq_go, if_f j8, h9, LR.seq_go, l0, LR.seq_go, l1, LR.seq_go, LR.seq_go, LR.seq_go, if_pos l7, if_neg o6]
 rotate_left
 refine oF ?_
 refine oF ?_
 refine R.pkFE rfl rfl cA ?_
 refine mA ?_
 refine oF ?_
 refine oF ?_
 refine R.pkFE rfl rfl cA ?_
 refine mA ?_
 refine oF ?_
 refine oF ?_
 refine R.pkFE rfl rfl cA ?_
 refine mA ?_
 refine oF ?_
 refine oF ?_
 refine R.pkFE rfl rfl cA ?_
 refine mA ?_
 refine oF ?_
 refine oF ?_
 refine oF ?_
 refine oF ?_
 refine R.pkFE rfl rfl cA ?_
 refine mA ?_
 refine oF ?_
 refine oF ?_
 refine oF ?_
 refine oF ?_
 refine R.pkFE rfl rfl cA ?_
 refine aA ?_
 refine nN (T.has Has.nil ?_)
 refine T.ret ?_
 have hM : k_16 = false := by subst k1; subst j5; subst f8; rw [k_16, LR.seq_go, if_f j8, h9, LR.seq_go, l0, LR.seq_go, l1, LR.seq_go, LR.seq_go, LR.seq_go, if_neg l7]
 rotate_left
 all_goals first
  | (
   refine eA ?_
   refine Plan.s1 2 [3, 4, 5, 7, 8] kA kA rfl ?_
   obtain ⟨a8, k0⟩ : ∃ r, r = (k_d a0 3 ((k_c 1 5)) []) := ⟨_, rfl⟩
   refine R.callp rfl rfl rfl (k_b3 _ ((d1.trans (a3.trans (c6.trans a6))) _ _ i8) ((d1.trans (a3.trans (c6.trans a6))) _ _ i9) a0 _ (c7.mono a6) _ (c8.mono a6) _ (c9.mono a6) _ (d0.mono a6) (3) ((k_c 1 5)) _ [] RdS.nil (by assumption) bA) ?_
   intro v34 H34 l5 l6
   rw [← k0] at l6
   obtain ⟨n2, n3, n4, n5, rfl, e5, e6, e7, e8⟩ := l6
   obtain ⟨e9, f0, rfl, n6, n7, e5⟩ := RdS.shape e5
   obtain ⟨f1, f2, rfl, n8, n9, e6⟩ := RdS.shape e6
   obtain ⟨f3, f4, rfl, o0, o1, e7⟩ := RdS.shape e7
   obtain ⟨f5, f6, rfl, o2, o3, e8⟩ := RdS.shape e8
   refine TL.nil (Plan.e1 (l5) ?_)
   refine vM 3 [4, 5, 7, 8] rfl rfl cA ?_
   refine vA 4 [5, 7, 8] rfl (fun _ _ h_ => R.ext rfl rfl rfl (TL.nil h_)) ?_
   refine vA 5 [7, 8] rfl (fun _ _ h_ => R.ext rfl rfl rfl (TL.nil h_)) ?_
   refine Plan.s1 7 [8] kA kA rfl ?_
   refine stY (l := (c24 a8.1.1 [.int .i64 (a8.1.2.1.1), sl e9 a8.1.2.1.2.1 f0, sl f1 a8.1.2.1.2.2 f2, sl f3 a8.1.2.2.1 f4, sl f5 a8.1.2.2.2 f6])) (new := (c24 a8.1.1 [.int .i64 (a8.1.2.1.1), sl e9 a8.1.2.1.2.1 f0, sl f1 a8.1.2.1.2.2 f2, sl f3 a8.1.2.2.1 f4, sl f5 a8.1.2.2.2 f6])) .hd sizeOf31 rfl rfl ?_
   refine eB ?_
   refine vA 8 [] rfl (fun _ _ h_ => aA (TL.nil h_)) ?_
   refine Plan.done (Post.thnN ?_)
   exact ⟨a8.2, l5, ⟨(Has.cons (.tl .hd) Has.nil), (by subst k0; rw [LR.seq_go])⟩, rfl, rfl, rfl, rfl, trivial⟩)
  | (
   refine eA ?_
   refine Plan.s1 2 [3, 4, 5, 7, 8] kA kA rfl ?_
   obtain ⟨a7, j9⟩ : ∃ r, r = (k_d a0 4 ((k_c 1 3)) []) := ⟨_, rfl⟩
   refine R.callp rfl rfl rfl (k_b3 _ ((d1.trans (a3.trans c6)) _ _ i8) ((d1.trans (a3.trans c6)) _ _ i9) a0 _ c7 _ c8 _ c9 _ d0 (4) ((k_c 1 3)) _ [] RdS.nil (by assumption) bA) ?_
   intro v28 H28 l3 l4
   rw [← j9] at l4
   obtain ⟨m0, m1, m2, m3, rfl, d2, d3, d4, d5⟩ := l4
   obtain ⟨d6, d7, rfl, m4, m5, d2⟩ := RdS.shape d2
   obtain ⟨d8, d9, rfl, m6, m7, d3⟩ := RdS.shape d3
   obtain ⟨e0, e2, rfl, m8, m9, d4⟩ := RdS.shape d4
   obtain ⟨e3, e4, rfl, n0, n1, d5⟩ := RdS.shape d5
   refine TL.nil (Plan.e1 (l3) ?_)
   refine vM 3 [4, 5, 7, 8] rfl rfl cA ?_
   refine vA 4 [5, 7, 8] rfl (fun _ _ h_ => R.ext rfl rfl rfl (TL.nil h_)) ?_
   refine vA 5 [7, 8] rfl (fun _ _ h_ => R.ext rfl rfl rfl (TL.nil h_)) ?_
   refine Plan.s1 7 [8] kA kA rfl ?_
   refine stY (l := (c24 a7.1.1 [.int .i64 (a7.1.2.1.1), sl d6 a7.1.2.1.2.1 d7, sl d8 a7.1.2.1.2.2 d9, sl e0 a7.1.2.2.1 e2, sl e3 a7.1.2.2.2 e4])) (new := (c24 a7.1.1 [.int .i64 (a7.1.2.1.1), sl d6 a7.1.2.1.2.1 d7, sl d8 a7.1.2.1.2.2 d9, sl e0 a7.1.2.2.1 e2, sl e3 a7.1.2.2.2 e4])) .hd sizeOf31 rfl rfl ?_
   refine eB ?_
   refine vA 8 [] rfl (fun _ _ h_ => aA (TL.nil h_)) ?_
   refine Plan.done (Post.thnN ?_)
   exact ⟨a7.2, l3, ⟨(Has.cons (.tl .hd) Has.nil), (by subst j9; rw [LR.seq_go])⟩, rfl, rfl, rfl, trivial⟩)
  | (
   exact fin1L (v := .bool false) [] rfl rfl (List.Sublist.refl _) ⟨rfl, by first | (rw [hM]; done) | (rw [hM]; rfl) | rfl⟩)
  | (
   refine Plan.s1 7 [8] kA kA rfl ?_
   refine stY (l := (c24 a9.1.1 [.int .i64 (a9.1.2.1.1), sl g3 a9.1.2.1.2.1 g4, sl g5 a9.1.2.1.2.2 g6, sl g7 a9.1.2.2.1 g8, sl g9 a9.1.2.2.2 h0])) (new := (c24 a9.1.1 [.int .i64 (a9.1.2.1.1), sl g3 a9.1.2.1.2.1 g4, sl g5 a9.1.2.1.2.2 g6, sl g7 a9.1.2.2.1 g8, sl g9 a9.1.2.2.2 h0])) .hd sizeOf31 rfl rfl ?_
   refine eB ?_
   refine vA 8 [] rfl (fun _ _ h_ => aA (TL.nil h_)) ?_
   refine Plan.done (Post.thnN ?_)
   exact ⟨(a9.2, b3, a9.1, sl g3 a9.1.2.1.2.1 g4, sl g5 a9.1.2.1.2.2 g6, sl g7 a9.1.2.2.1 g8, sl g9 a9.1.2.2.2 h0), p2, ⟨(Has.cons .hd Has.nil), f9, g0, g1, g2, (by subst l8; rw [LR.seq_go])⟩, rfl, rfl, trivial⟩)
theorem w19_true : k_16 = true := by kernel_rfl
end Go.SX
namespace Go.SX
open Go Go.Proofs Go.Proofs.Tryz
theorem slinks_len (s : Sta) (n : Int) (r : List (Int × Int)) (e : r = k_7e s n) (hS : StS s) : r.length ≤ 1000 := by
  rw [e]
  unfold k_7e
  by_cases c : k_15 s = 0
  · rw [if_neg (fun h => h c), LR.seq_go]
    have h1 := links_len s n _ rfl
    have := hS.ids
    omega
  · rw [if_pos c]; exact Nat.zero_le _
def k_23 (yl3 : ZL) : List (ZR) → Unit → LR (LR (Bool) (Unit)) (Unit)
  | [], sl5 => .go ()
  | yl5 :: ysl5, sl5 => LR.seq (if yl3.2.2.1 = true then (LR.seq (k_4f yl5.2.1 yl3.1) (fun r106 => (decide ((1 : Int) < (r106.length : Int))))) else false : Bool) (fun sc6 => if sc6 = true then (.ret (.ret false)) else (k_23 yl3 ysl5 ()))
def k_18 (r22 : (ZS)) : List (ZL) → Unit → LR (Bool) (Unit)
  | [], sl3 => .go ()
  | yl3 :: ysl3, sl3 => LR.seq (k_7e r22 yl3.1) (fun r83 => LR.seq (if yl3.2.1 = true then ((roundR r83)) else false : Bool) (fun sc4 => if sc4 = true then (.ret false) else (LR.on (k_23 yl3 r22.2.2.2 ()) (fun r => r) (fun ol5 => k_18 r22 ysl3 ()))))
def k_22 (r22 : (ZS)) : List (Int × Int) → Unit → LR (Bool) (Unit)
  | [], sl1 => .go ()
  | yl1 :: ysl1, sl1 => LR.seq (k_1 yl1.2) (fun r40 => LR.seq (k_79 r22 r40.1) (fun r46 => LR.seq (k_79 r22 r40.2) (fun r52 => LR.seq (k_29 r22.2.2.1 r40.1) (fun r59 => LR.seq (if (!r46.2) = true then true else (if (!r52.2) = true then true else (!r59.2)) : Bool) (fun sc2 => if sc2 = true then (.ret false) else (k_22 r22 ysl1 ()))))))
def k_14 (a0 : ZS) : Bool :=
  if (!k_16) = true then false else (LR.seq (k_a a0) (fun r22 => if ((k_15 r22) : Int) ≠ 0 then (LR.seq (k_69 r22) (fun r27 => (decide ((r27.length : Int) = 0)))) else (LR.seq (k_69 r22) (fun r31 => LR.on (k_22 r22 r31 ()) (fun r => r) (fun ol1 => LR.on (k_18 r22 r22.2.2.1 ()) (fun r => r) (fun ol3 => true))))))
theorem windroselaw19_StateSound_c (H : Heap) {tG0 : TypeId} (g5 : gF H 0 tG0) {tG1 : TypeId} (h5 : gA H 1 tG1) (a0 : ZS) (n3 : Value) (h6 : RdS slotE H n3 a0.2.1.2.1) (n4 : Value) (h7 : RdS (intE .i64) H n4 a0.2.1.2.2) (n5 : Value) (h8 : RdS relationE H n5 a0.2.2.1) (n6 : Value) (h9 : RdS rowE H n6 a0.2.2.2) : Fv Tryz.prog (fnv 3) [.agg (c24 a0.1 [.int .i64 a0.2.1.1, n3, n4, n5, n6]).toArray] H (.bool (k_14 a0)) := by
 refine Fc.of_body (N := 112) func3 rfl kA rfl rfl ?_
 intro w0
 obtain ⟨i0, i1, rfl, v4, v5, h6⟩ := h6.shape
 obtain ⟨i2, i3, rfl, v6, v7, h7⟩ := h7.shape
 obtain ⟨i4, i5, rfl, v8, v9, h8⟩ := h8.shape
 obtain ⟨i6, i7, rfl, w1, w2, h9⟩ := h9.shape
 refine sR (R.box rfl cA ?_)
 intro b1
 refine aA ?_
 refine TL.shut .hd ?_
 intro r8 c4 r9
 have s0 : r8 b1 = some (.cells (c24 a0.1 [.int .i64 (a0.2.1.1), .slice i0 a0.2.1.2.1.length i1, .slice i2 a0.2.1.2.2.length i3, .slice i4 a0.2.2.1.length i5, .slice i6 a0.2.2.2.length i7]).toArray 31) := shut1 r9
 refine nN (T.seq (sR (R.callv rfl rfl rfl (windroselaw19_wakes_c _ (c4 _ _ g5) (c4 _ _ h5)) ?_)))
 refine R.not rfl rfl ?_
 refine nN (T.cond rfl (fun f5 => ?_) (fun f5 => ?_))
 refine T.set 20 (.bool true) (congrArg Value.bool f5) ?_
 refine sR (aA ?_)
 refine nN (T.has Has.nil ?_)
 refine T.ret (Post.thnR ?_)
 have hM : k_14 a0 = false := by rw [k_14, if_t f5]
 rotate_left
 refine T.set 20 (.bool false) (congrArg Value.bool f5) ?_
 refine T.skip (Post.thnN (sR ?_))
 refine R.ldXH (cs := (c24 a0.1 [.int .i64 (a0.2.1.1), sl i0 a0.2.1.2.1 i1, sl i2 a0.2.1.2.2 i3, sl i4 a0.2.2.1 i5, sl i6 a0.2.2.2 i7])) (l := (c24 a0.1 [.int .i64 (a0.2.1.1), sl i0 a0.2.1.2.1 i1, sl i2 a0.2.1.2.2 i3, sl i4 a0.2.2.1 i5, sl i6 a0.2.2.2 i7])) isAgg31 sizeOf31 rfl rfl s0 rfl rfl ?_
 obtain ⟨a1, f3⟩ : ∃ r, r = (k_a a0) := ⟨_, rfl⟩
 refine TL.call [] rfl rfl rfl (windroselaw19_own_c _ a0 _ (h6.mono c4) _ (h7.mono c4) _ (h8.mono c4) _ (h9.mono c4)) ?_
 intro v22 H22 L22 e3 q22
 rw [← f3] at q22
 obtain ⟨t2, t3, t4, t5, t6, t7, t8, t9, rfl, rfl, i8, i9, j0, j1⟩ := q22
 obtain ⟨b7, b9, rfl, u0, u1⟩ := OwnS.shape i8
 obtain ⟨c0, c1, rfl, u2, u3⟩ := OwnS.shape i9
 obtain ⟨a8, a9, rfl, u4, u5⟩ := OwnS.shape j0
 obtain ⟨b0, b2, rfl, u6, u7⟩ := OwnS.shape j1
 have e6 := own19_t _ _ f3
 have tos22 := e6.sts
 have toa22 := e6.slots
 have tob22 := e6.free
 have toc22 := e6.rels
 have tod22 := e6.rows
 refine R.alloc zeroValue31 rfl ?_
 intro b3
 refine stY (l := (c24 a1.1 [.int .i64 (a1.2.1.1), sl b7 a1.2.1.2.1 b9, sl c0 a1.2.1.2.2 c1, sl a8 a1.2.2.1 a9, sl b0 a1.2.2.2 b2])) (new := (c24 a1.1 [.int .i64 (a1.2.1.1), sl b7 a1.2.1.2.1 b9, sl c0 a1.2.1.2.2 c1, sl a8 a1.2.2.1 a9, sl b0 a1.2.2.2 b2])) .hd sizeOf31 rfl rfl ?_
 refine TL.shut (.tl .hd) ?_
 intro q7 a7 j8
 have c9 := OwnS.read i8 a7 j8
 refine TL.shut (.tl .hd) ?_
 intro q8 a5 j9
 have d0 := OwnS.read (OwnS.mono i9 a7) a5 j9
 refine TL.shut (.tl .hd) ?_
 intro q9 a3 k0
 have c5 := OwnS.read (OwnS.mono j0 (a7.trans a5)) a3 k0
 refine TL.shut (.tl .hd) ?_
 intro r0 a2 k1
 have c7 := OwnS.read (OwnS.mono j1 (a7.trans (a5.trans a3))) a2 k1
 refine TL.shut .hd ?_
 intro s1 a6 s2
 have d7 : s1 b3 = some (.cells (c24 a1.1 [.int .i64 (a1.2.1.1), .slice b7 a1.2.1.2.1.length b9, .slice c0 a1.2.1.2.2.length c1, .slice a8 a1.2.2.1.length a9, .slice b0 a1.2.2.2.length b2]).toArray 31) := shut1 s2
 refine nN (T.seq (sR (R.ldXH (cs := (c24 a1.1 [.int .i64 (a1.2.1.1), .slice b7 a1.2.1.2.1.length b9, .slice c0 a1.2.1.2.2.length c1, .slice a8 a1.2.2.1.length a9, .slice b0 a1.2.2.2.length b2])) (l := (c24 a1.1 [.int .i64 (a1.2.1.1), .slice b7 a1.2.1.2.1.length b9, .slice c0 a1.2.1.2.2.length c1, .slice a8 a1.2.2.1.length a9, .slice b0 a1.2.2.2.length b2])) isAgg31 sizeOf31 rfl rfl d7 rfl rfl ?_)))
 refine R.callv rfl rfl rfl (k_9d _ ((c4.trans (e3.trans (a7.trans (a5.trans (a3.trans (a2.trans a6)))))) _ _ g5) ((c4.trans (e3.trans (a7.trans (a5.trans (a3.trans (a2.trans a6)))))) _ _ h5) a1 _ (c9.mono (a5.trans (a3.trans (a2.trans a6)))) _ (d0.mono (a3.trans (a2.trans a6))) _ (c5.mono (a2.trans a6)) _ (c7.mono a6) (by assumption)) ?_
 refine R.neq rfl rfl rfl ?_
 refine nN (T.condD rfl (fun g6 => ?_) (fun g6 => ?_))
 refine T.set 25 (.bool true) (congrArg Value.bool (decide_eq_true g6)) ?_
 refine sR (R.ldXH (cs := (c24 a1.1 [.int .i64 (a1.2.1.1), .slice b7 a1.2.1.2.1.length b9, .slice c0 a1.2.1.2.2.length c1, .slice a8 a1.2.2.1.length a9, .slice b0 a1.2.2.2.length b2])) (l := (c24 a1.1 [.int .i64 (a1.2.1.1), .slice b7 a1.2.1.2.1.length b9, .slice c0 a1.2.1.2.2.length c1, .slice a8 a1.2.2.1.length a9, .slice b0 a1.2.2.2.length b2])) isAgg31 sizeOf31 rfl rfl d7 rfl rfl ?_)
 obtain ⟨r27, q3⟩ : ∃ r, r = (k_69 a1) := ⟨_, rfl⟩
 refine TL.call [] rfl rfl rfl (state_Held_c _ ((c4.trans (e3.trans (a7.trans (a5.trans (a3.trans (a2.trans a6)))))) _ _ g5) ((c4.trans (e3.trans (a7.trans (a5.trans (a3.trans (a2.trans a6)))))) _ _ h5) a1 _ (c9.mono (a5.trans (a3.trans (a2.trans a6)))) _ (d0.mono (a3.trans (a2.trans a6))) _ (c5.mono (a2.trans a6)) _ (c7.mono a6) (by assumption)) ?_
 intro v27 H27 L27 s27 q27
 rw [← q3] at q27
 obtain ⟨w3, w4, rfl, rfl, p2⟩ := q27
 obtain ⟨w5, w6, rfl, w7, w8⟩ := OwnS.shape p2
 refine R.len underlying36 rfl rfl ?_
 refine R.eql rfl rfl rfl ?_
 refine aA ?_
 refine nN (T.has Has.nil ?_)
 refine T.ret (Post.thnR ?_)
 have hM : k_14 a0 = (decide ((r27.length : Int) = 0)) := by subst q3; subst f3; rw [k_14, if_f f5, LR.seq_go, if_pos g6, LR.seq_go]
 exact fin1L (v := .bool (decide ((r27.length : Int) = 0))) [] rfl rfl (List.Sublist.refl _) ⟨rfl, by first | rw [hM] | rfl⟩
 refine T.set 25 (.bool false) (congrArg Value.bool (decide_eq_false g6)) ?_
 refine T.skip (Post.thnN (T.seq ?_))
 refine sR (R.ldXH (cs := (c24 a1.1 [.int .i64 (a1.2.1.1), .slice b7 a1.2.1.2.1.length b9, .slice c0 a1.2.1.2.2.length c1, .slice a8 a1.2.2.1.length a9, .slice b0 a1.2.2.2.length b2])) (l := (c24 a1.1 [.int .i64 (a1.2.1.1), .slice b7 a1.2.1.2.1.length b9, .slice c0 a1.2.1.2.2.length c1, .slice a8 a1.2.2.1.length a9, .slice b0 a1.2.2.2.length b2])) isAgg31 sizeOf31 rfl rfl d7 rfl rfl ?_)
 obtain ⟨d8, j2⟩ : ∃ r, r = (k_69 a1) := ⟨_, rfl⟩
 refine TL.call [] rfl rfl rfl (state_Held_c _ ((c4.trans (e3.trans (a7.trans (a5.trans (a3.trans (a2.trans a6)))))) _ _ g5) ((c4.trans (e3.trans (a7.trans (a5.trans (a3.trans (a2.trans a6)))))) _ _ h5) a1 _ (c9.mono (a5.trans (a3.trans (a2.trans a6)))) _ (d0.mono (a3.trans (a2.trans a6))) _ (c5.mono (a2.trans a6)) _ (c7.mono a6) (by assumption)) ?_
 intro v31 H31 L31 c8 q31
 rw [← j2] at q31
 obtain ⟨w9, x0, rfl, rfl, k7⟩ := q31
 obtain ⟨k8, k9, rfl, x1, x2⟩ := OwnS.shape k7
 refine R.len underlying36 rfl rfl ?_
 refine mA ?_
 refine nN (T.block (T.shut .hd ?_))
 intro s3 a4 l6
 have l7 := OwnS.read k7 a4 l6
 refine T.loop (ι := Nat) (fun e1 H' L' ds' => e1 ≤ d8.length ∧ Has L' [] ∧ k_22 a1 (d8.drop e1) () = k_22 a1 d8 ()) (fun e1 => [(33, .int .i64 (e1 : Int)), (3, .pointer (some ⟨b3, 0, none⟩)), (31, .slice k8 d8.length k9), (32, .int .i64 (d8.length : Int))]) (fun e1 => d8.length - e1) 0 ?_ ?_ ?_
 exact ⟨oA, Has.nil, (by rfl)⟩
 exact ⟨rfl, rfl, rfl, rfl, trivial⟩
 intro e1 σ_l1 H_l1 L_l1 ds_l1 c3 l8
 obtain ⟨hkl1, l8⟩ := l8
 obtain ⟨hLl1, n7⟩ := l8
 refine T.has hLl1 ?_
 refine sR (R.lss rfl rfl rfl ?_)
 refine nN (T.seq (T.condD rfl (fun c34 => ?_) (fun c34 => ?_)))
 have hltl1 : e1 < d8.length := by omega
 obtain ⟨e4, n8⟩ := getk (xs := d8) (k := e1) oA
 refine T.skip (Post.thnN (T.seq ?_))
 refine T.block (sR ?_)
 obtain ⟨b35, o35, i35, k35⟩ := RdS.elem (l7.mono c3) n8
 obtain ⟨l35, g35, k35⟩ := k35
 obtain rfl : l35 = [.int .i64 (e4.1), .int .u64 (e4.2)] := g35
 refine R.ixp underlying36 sizeOf41 rfl rfl rfl oA i35 ?_
 refine R.ldK (l := [.int .i64 (e4.1), .int .u64 (e4.2)]) isAgg41 sizeOf41 rfl rfl k35 rfl ?_
 refine R.alloc zeroValue41 rfl ?_
 intro b5
 refine stY (l := [.int .i64 (e4.1), .int .u64 (e4.2)]) (new := [.int .i64 (e4.1), .int .u64 (e4.2)]) .hd sizeOf41 rfl rfl ?_
 refine TL.shut .hd ?_
 intro s4 c6 s5
 have s6 : s4 b5 = some (.cells #[.int .i64 (e4.1), .int .u64 (e4.2)] 41) := shut1 s5
 refine nN (sR (fA underlying41 rfl sizeOf39 ?_))
 refine R.ldH isAgg39 rfl rfl s6 rfl ?_
 obtain ⟨g7, n9⟩ : ∃ r, r = (k_1 e4.2) := ⟨_, rfl⟩
 refine R.callv (v := .tuple #[.int .i64 g7.1, .int .i64 g7.2]) rfl rfl rfl (by rw [n9]; exact k_57 _ (e4.2)) ?_
 refine mA ?_
 refine R.ext rfl rfl rfl ?_
 refine R.ext rfl rfl rfl ?_
 refine aA ?_
 refine aA ?_
 refine nN (sR (R.ldXH (cs := (c24 a1.1 [.int .i64 (a1.2.1.1), .slice b7 a1.2.1.2.1.length b9, .slice c0 a1.2.1.2.2.length c1, .slice a8 a1.2.2.1.length a9, .slice b0 a1.2.2.2.length b2])) (l := (c24 a1.1 [.int .i64 (a1.2.1.1), .slice b7 a1.2.1.2.1.length b9, .slice c0 a1.2.1.2.2.length c1, .slice a8 a1.2.2.1.length a9, .slice b0 a1.2.2.2.length b2])) isAgg31 sizeOf31 rfl rfl ((c8.trans (a4.trans (c3.trans c6))) _ _ d7) rfl rfl ?_))
 refine mA ?_
 obtain ⟨f0, l9⟩ : ∃ r, r = (k_79 a1 g7.1) := ⟨_, rfl⟩
 refine TL.call [] rfl rfl rfl (state_At_c _ ((c4.trans (e3.trans (a7.trans (a5.trans (a3.trans (a2.trans (a6.trans (c8.trans (a4.trans (c3.trans c6)))))))))) _ _ g5) ((c4.trans (e3.trans (a7.trans (a5.trans (a3.trans (a2.trans (a6.trans (c8.trans (a4.trans (c3.trans c6)))))))))) _ _ h5) a1 _ (c9.mono (a5.trans (a3.trans (a2.trans (a6.trans (c8.trans (a4.trans (c3.trans c6)))))))) _ (d0.mono (a3.trans (a2.trans (a6.trans (c8.trans (a4.trans (c3.trans c6))))))) _ (c5.mono (a2.trans (a6.trans (c8.trans (a4.trans (c3.trans c6)))))) _ (c7.mono (a6.trans (c8.trans (a4.trans (c3.trans c6))))) (g7.1) (by assumption)) ?_
 intro v46 H46 L46 e5 q46
 rw [← l9] at q46
 obtain ⟨x3, x4, x5, x6, rfl, rfl, l0, l1⟩ := q46
 obtain ⟨f7, f8, rfl, x7, x8⟩ := OwnS.shape l0
 obtain ⟨f9, g0, rfl, x9, y0⟩ := OwnS.shape l1
 have tA46 := at_fact _ _ _ l9 bA
 refine mA ?_
 refine R.ext rfl rfl rfl ?_
 refine R.ext rfl rfl rfl ?_
 refine R.alloc zeroValue47 rfl ?_
 intro b8
 refine stY (l := [.int .i64 (f0.1.1), sl f7 f0.1.2.1 f8, sl f9 f0.1.2.2 g0]) (new := [.int .i64 (f0.1.1), sl f7 f0.1.2.1 f8, sl f9 f0.1.2.2 g0]) .hd sizeOf47 rfl rfl ?_
 refine aA ?_
 refine TL.shut (.tl .hd) ?_
 intro s7 b6 m0
 have s8 := OwnS.read l0 b6 m0
 refine TL.shut (.tl .hd) ?_
 intro r1 b4 k2
 have r2 := OwnS.read (OwnS.mono l1 b6) b4 k2
 refine TL.shut .hd ?_
 intro q4 d3 q5
 have hb8_11 : q4 b8 = some (.cells #[.int .i64 (f0.1.1), .slice f7 f0.1.2.1.length f8, .slice f9 f0.1.2.2.length g0] 47) := shut1 q5
 refine nN (sR (R.ldXH (cs := (c24 a1.1 [.int .i64 (a1.2.1.1), .slice b7 a1.2.1.2.1.length b9, .slice c0 a1.2.1.2.2.length c1, .slice a8 a1.2.2.1.length a9, .slice b0 a1.2.2.2.length b2])) (l := (c24 a1.1 [.int .i64 (a1.2.1.1), .slice b7 a1.2.1.2.1.length b9, .slice c0 a1.2.1.2.2.length c1, .slice a8 a1.2.2.1.length a9, .slice b0 a1.2.2.2.length b2])) isAgg31 sizeOf31 rfl rfl ((c8.trans (a4.trans (c3.trans (c6.trans (e5.trans (b6.trans (b4.trans d3))))))) _ _ d7) rfl rfl ?_))
 refine mA ?_
 obtain ⟨f1, m1⟩ : ∃ r, r = (k_79 a1 g7.2) := ⟨_, rfl⟩
 refine TL.call [] rfl rfl rfl (state_At_c _ ((c4.trans (e3.trans (a7.trans (a5.trans (a3.trans (a2.trans (a6.trans (c8.trans (a4.trans (c3.trans (c6.trans (e5.trans (b6.trans (b4.trans d3)))))))))))))) _ _ g5) ((c4.trans (e3.trans (a7.trans (a5.trans (a3.trans (a2.trans (a6.trans (c8.trans (a4.trans (c3.trans (c6.trans (e5.trans (b6.trans (b4.trans d3)))))))))))))) _ _ h5) a1 _ (c9.mono (a5.trans (a3.trans (a2.trans (a6.trans (c8.trans (a4.trans (c3.trans (c6.trans (e5.trans (b6.trans (b4.trans d3)))))))))))) _ (d0.mono (a3.trans (a2.trans (a6.trans (c8.trans (a4.trans (c3.trans (c6.trans (e5.trans (b6.trans (b4.trans d3))))))))))) _ (c5.mono (a2.trans (a6.trans (c8.trans (a4.trans (c3.trans (c6.trans (e5.trans (b6.trans (b4.trans d3)))))))))) _ (c7.mono (a6.trans (c8.trans (a4.trans (c3.trans (c6.trans (e5.trans (b6.trans (b4.trans d3))))))))) (g7.2) (by assumption)) ?_
 intro v52 H52 L52 o8 q52
 rw [← m1] at q52
 obtain ⟨y1, y2, y3, y4, rfl, rfl, l2, l3⟩ := q52
 obtain ⟨g1, g2, rfl, y5, y6⟩ := OwnS.shape l2
 obtain ⟨g3, g4, rfl, y7, y8⟩ := OwnS.shape l3
 have tA52 := at_fact _ _ _ m1 bA
 refine mA ?_
 refine R.ext rfl rfl rfl ?_
 refine R.ext rfl rfl rfl ?_
 refine R.alloc zeroValue47 rfl ?_
 intro b10
 refine stY (l := [.int .i64 (f1.1.1), sl g1 f1.1.2.1 g2, sl g3 f1.1.2.2 g4]) (new := [.int .i64 (f1.1.1), sl g1 f1.1.2.1 g2, sl g3 f1.1.2.2 g4]) .hd sizeOf47 rfl rfl ?_
 refine aA ?_
 refine TL.shut (.tl .hd) ?_
 intro r3 d1 k3
 have r4 := OwnS.read l2 d1 k3
 refine TL.shut (.tl .hd) ?_
 intro r5 d5 k4
 have r6 := OwnS.read (OwnS.mono l3 d1) d5 k4
 refine TL.shut .hd ?_
 intro p3 e7 p4
 have y9 : p3 b10 = some (.cells #[.int .i64 (f1.1.1), .slice g1 f1.1.2.1.length g2, .slice g3 f1.1.2.2.length g4] 47) := shut1 p4
 refine nN (sR (fA underlying31 rfl sizeOf28 ?_))
 refine R.ldH isAgg28 rfl rfl ((c8.trans (a4.trans (c3.trans (c6.trans (e5.trans (b6.trans (b4.trans (d3.trans (o8.trans (d1.trans (d5.trans e7))))))))))) _ _ d7) rfl ?_
 refine mA ?_
 obtain ⟨d4, m2⟩ : ∃ r, r = (k_29 a1.2.2.1 g7.1) := ⟨_, rfl⟩
 refine R.callv (v := .tuple #[.agg #[.bool d4.1.1, .bool d4.1.2.1, .int .i64 d4.1.2.2.1, .int .i64 d4.1.2.2.2.1, .int .i64 d4.1.2.2.2.2], .bool d4.2]) rfl rfl rfl (by rw [m2]; exact trait_Find_c _ ((c4.trans (e3.trans (a7.trans (a5.trans (a3.trans (a2.trans (a6.trans (c8.trans (a4.trans (c3.trans (c6.trans (e5.trans (b6.trans (b4.trans (d3.trans (o8.trans (d1.trans (d5.trans e7)))))))))))))))))) _ _ g5) _ a1.2.2.1 (c5.mono (a2.trans (a6.trans (c8.trans (a4.trans (c3.trans (c6.trans (e5.trans (b6.trans (b4.trans (d3.trans (o8.trans (d1.trans (d5.trans e7)))))))))))))) (g7.1) bA) ?_
 have tp59 := find_pol _ _ _ m2 bA
 refine mA ?_
 refine R.ext rfl rfl rfl ?_
 refine R.ext rfl rfl rfl ?_
 refine R.alloc zeroValue51 rfl ?_
 intro b12
 refine stY (l := [.bool (d4.1.1), .bool (d4.1.2.1), .int .i64 (d4.1.2.2.1), .int .i64 (d4.1.2.2.2.1), .int .i64 (d4.1.2.2.2.2)]) (new := [.bool (d4.1.1), .bool (d4.1.2.1), .int .i64 (d4.1.2.2.1), .int .i64 (d4.1.2.2.2.1), .int .i64 (d4.1.2.2.2.2)]) .hd sizeOf51 rfl rfl ?_
 refine aA ?_
 refine TL.shut .hd ?_
 intro p5 p6 p7
 have z0 : p5 b12 = some (.cells #[.bool (d4.1.1), .bool (d4.1.2.1), .int .i64 (d4.1.2.2.1), .int .i64 (d4.1.2.2.2.1), .int .i64 (d4.1.2.2.2.2)] 51) := shut1 p7
 refine nN (T.seq (T.cutK (ι := Bool) (fun g9 H' L' ds' => Has L' [] ∧ (if (!f0.2) = true then true else (if (!f1.2) = true then true else (!d4.2)) : Bool) = g9) (fun g9 => [(3, .pointer (some ⟨b3, 0, none⟩)), (31, .slice k8 d8.length k9), (32, .int .i64 (d8.length : Int)), (33, .int .i64 (e1 : Int)), (71, .bool (g9))]) ?_ ?_))
 refine T.region (mA ?_)
 refine R.not rfl rfl ?_
 refine mA ?_
 refine TL.gsplit 64 rfl (fun o9 => ?_) (fun o9 => ?_)
 refine oF ?_
 refine oF ?_
 refine R.pkTE rfl rfl cA ?_
 refine mA ?_
 refine oF ?_
 refine oF ?_
 refine R.pkTE rfl rfl cA ?_
 refine nN ?_
 exact ⟨true, HLe.refl _, ⟨Has.nil, (by rw [if_t o9])⟩, rfl, rfl, rfl, rfl, rfl, trivial⟩
 refine mA ?_
 refine R.not rfl rfl ?_
 refine R.pkFE rfl rfl cA ?_
 refine mA ?_
 refine TL.gsplit 68 rfl (fun g68 => ?_) (fun g68 => ?_)
 refine oF ?_
 refine oF ?_
 refine R.pkTE rfl rfl cA ?_
 refine nN ?_
 exact ⟨true, HLe.refl _, ⟨Has.nil, (by rw [if_f o9, if_t g68])⟩, rfl, rfl, rfl, rfl, rfl, trivial⟩
 refine mA ?_
 refine R.not rfl rfl ?_
 refine R.pkFE rfl rfl cA ?_
 refine nN ?_
 exact ⟨(!d4.2), HLe.refl _, ⟨Has.nil, (by rw [if_f o9, if_f g68])⟩, rfl, rfl, rfl, rfl, rfl, trivial⟩
 intro g9 σ_c2 H_c2 L_c2 ds_c2 s_c2 s9
 obtain ⟨hLc2, m3⟩ := s9
 refine T.has hLc2 ?_
 refine T.cond rfl (fun j3 => ?_) (fun j3 => ?_)
 refine T.set 71 (.bool true) (congrArg Value.bool j3) ?_
 have o0 := m3.trans j3
 try simp only [or_f, or_t, and_f, and_t, decide_eq_true_eq, decide_eq_false_iff_not, Bool.not_eq_true'] at o0
 refine sR (aA ?_)
 refine nN (T.has Has.nil ?_)
 refine T.ret (Post.blkR (Post.thnR (Post.thnR (Post.blkR (Post.thnR ?_)))))
 have hXl1 : k_22 a1 d8 () = .ret false := by subst m2; subst m1; subst l9; subst n9; rw [← n7, k_8 n8, k_22]; rw [LR.seq_go, LR.seq_go, LR.seq_go, LR.seq_go, m3, LR.seq_go, if_t j3]
 have hM : k_14 a0 = false := by subst j2; subst f3; rw [k_14, if_f f5, LR.seq_go, if_neg g6, LR.seq_go, hXl1, LR.on_ret]
 rotate_left
 refine T.set 71 (.bool false) (congrArg Value.bool j3) ?_
 have o0 := m3.trans j3
 try simp only [or_f, or_t, and_f, and_t, decide_eq_true_eq, decide_eq_false_iff_not, Bool.not_eq_true'] at o0
 refine T.skip (Post.blkN ?_)
 refine id (Post.thnN (T.region ?_))
 refine R.addI rfl rfl rfl oA ?_
 refine mA ?_
 refine nN ?_
 exact ⟨e1 + 1, (c3.trans (c6.trans (e5.trans (b6.trans (b4.trans (d3.trans (o8.trans (d1.trans (d5.trans (e7.trans (p6.trans s_c2))))))))))), ⟨oA, Has.nil, (by subst m2; subst m1; subst l9; subst n9; rw [← n7, k_8 n8, k_22]; rw [LR.seq_go, LR.seq_go, LR.seq_go, LR.seq_go, m3, LR.seq_go, if_f j3])⟩, by show d8.length - (e1 + 1) < d8.length - e1; omega, rfl, rfl, rfl, rfl, trivial⟩
 refine T.exit (Post.thnE (Post.thnE (Post.blkX ?_)))
 have o1 : k_22 a1 d8 () = .go () := (n7.symm.trans (by rw [show e1 = d8.length by omega, List.drop_length, k_22]))
 refine id (Post.thnN (T.seq ?_))
 refine sR (fA underlying31 rfl sizeOf28 ?_)
 refine R.ldH isAgg28 rfl rfl ((c8.trans (a4.trans c3)) _ _ d7) rfl ?_
 refine R.len underlying28 rfl rfl ?_
 refine mA ?_
 refine nN (T.block (T.loop (ι := Nat) (fun d6 H' L' ds' => d6 ≤ a1.2.2.1.length ∧ Has L' [] ∧ k_18 a1 (a1.2.2.1.drop d6) () = k_18 a1 a1.2.2.1 ()) (fun d6 => [(76, .int .i64 (d6 : Int)), (3, .pointer (some ⟨b3, 0, none⟩)), (74, .slice a8 a1.2.2.1.length a9), (75, .int .i64 (a1.2.2.1.length : Int))]) (fun d6 => a1.2.2.1.length - d6) 0 ?_ ?_ ?_))
 exact ⟨oA, Has.nil, (by rfl)⟩
 exact ⟨rfl, rfl, rfl, rfl, trivial⟩
 intro d6 σ_l3 H_l3 L_l3 ds_l3 d9 m4
 obtain ⟨hkl3, m4⟩ := m4
 obtain ⟨hLl3, m5⟩ := m4
 refine T.has hLl3 ?_
 refine sR (R.lss rfl rfl rfl ?_)
 refine nN (T.seq (T.condD rfl (fun c77 => ?_) (fun c77 => ?_)))
 have hltl3 : d6 < a1.2.2.1.length := by omega
 obtain ⟨c2, m6⟩ := getk (xs := a1.2.2.1) (k := d6) oA
 refine T.skip (Post.thnN (T.seq ?_))
 refine T.block (sR ?_)
 obtain ⟨b78, o78, i78, k78⟩ := RdS.elem (c5.mono (a2.trans (a6.trans (c8.trans (a4.trans (c3.trans d9)))))) m6
 obtain ⟨l78, g78, k78⟩ := k78
 obtain rfl : l78 = [.int .i64 (c2.1), .bool (c2.2.1), .bool (c2.2.2.1), .int .i64 (c2.2.2.2.1), .int .i64 (c2.2.2.2.2.1), .int .i64 (c2.2.2.2.2.2)] := g78
 refine R.ixp underlying28 sizeOf55 rfl rfl rfl oA i78 ?_
 refine R.ldK (l := [.int .i64 (c2.1), .bool (c2.2.1), .bool (c2.2.2.1), .int .i64 (c2.2.2.2.1), .int .i64 (c2.2.2.2.2.1), .int .i64 (c2.2.2.2.2.2)]) isAgg55 sizeOf55 rfl rfl k78 rfl ?_
 refine R.alloc zeroValue55 rfl ?_
 intro p0
 refine stY (l := [.int .i64 (c2.1), .bool (c2.2.1), .bool (c2.2.2.1), .int .i64 (c2.2.2.2.1), .int .i64 (c2.2.2.2.2.1), .int .i64 (c2.2.2.2.2.2)]) (new := [.int .i64 (c2.1), .bool (c2.2.1), .bool (c2.2.2.1), .int .i64 (c2.2.2.2.1), .int .i64 (c2.2.2.2.2.1), .int .i64 (c2.2.2.2.2.2)]) .hd sizeOf55 rfl rfl ?_
 refine TL.shut .hd ?_
 intro p8 d2 p9
 have e8 : p8 p0 = some (.cells #[.int .i64 (c2.1), .bool (c2.2.1), .bool (c2.2.2.1), .int .i64 (c2.2.2.2.1), .int .i64 (c2.2.2.2.2.1), .int .i64 (c2.2.2.2.2.2)] 55) := shut1 p9
 refine nN (sR (R.ldXH (cs := (c24 a1.1 [.int .i64 (a1.2.1.1), .slice b7 a1.2.1.2.1.length b9, .slice c0 a1.2.1.2.2.length c1, .slice a8 a1.2.2.1.length a9, .slice b0 a1.2.2.2.length b2])) (l := (c24 a1.1 [.int .i64 (a1.2.1.1), .slice b7 a1.2.1.2.1.length b9, .slice c0 a1.2.1.2.2.length c1, .slice a8 a1.2.2.1.length a9, .slice b0 a1.2.2.2.length b2])) isAgg31 sizeOf31 rfl rfl ((c8.trans (a4.trans (c3.trans (d9.trans d2)))) _ _ d7) rfl rfl ?_))
 refine fA underlying55 rfl sizeOf3 ?_
 refine R.ldH isAgg3 rfl rfl e8 rfl ?_
 obtain ⟨r83, j4⟩ : ∃ r, r = (k_7e a1 c2.1) := ⟨_, rfl⟩
 refine TL.call [] rfl rfl rfl (state_Links_c _ ((c4.trans (e3.trans (a7.trans (a5.trans (a3.trans (a2.trans (a6.trans (c8.trans (a4.trans (c3.trans (d9.trans d2))))))))))) _ _ g5) ((c4.trans (e3.trans (a7.trans (a5.trans (a3.trans (a2.trans (a6.trans (c8.trans (a4.trans (c3.trans (d9.trans d2))))))))))) _ _ h5) a1 _ (c9.mono (a5.trans (a3.trans (a2.trans (a6.trans (c8.trans (a4.trans (c3.trans (d9.trans d2))))))))) _ (d0.mono (a3.trans (a2.trans (a6.trans (c8.trans (a4.trans (c3.trans (d9.trans d2)))))))) _ (c5.mono (a2.trans (a6.trans (c8.trans (a4.trans (c3.trans (d9.trans d2))))))) _ (c7.mono (a6.trans (c8.trans (a4.trans (c3.trans (d9.trans d2)))))) (c2.1) (by assumption)) ?_
 intro v83 H83 L83 l4 q83
 rw [← j4] at q83
 obtain ⟨z1, z2, rfl, rfl, l5⟩ := q83
 obtain ⟨z3, z4, rfl, z5, z6⟩ := OwnS.shape l5
 have tlk83 := slinks_len _ _ _ j4 (by assumption)
 refine aA ?_
 refine nN (T.seq (T.seq (T.cutK (ι := Bool) (fun h0 H' L' ds' => Has L' [] ∧ (if c2.2.1 = true then ((roundR r83)) else false : Bool) = h0) (fun h0 => [(3, .pointer (some ⟨b3, 0, none⟩)), (15, .pointer (some ⟨p0, 0, none⟩)), (74, .slice a8 a1.2.2.1.length a9), (75, .int .i64 (a1.2.2.1.length : Int)), (76, .int .i64 (d6 : Int)), (90, .bool (h0))]) ?_ ?_)))
 refine T.region (fA underlying55 rfl sizeOf51 ?_)
 refine fA underlying51 rfl sizeOf4 ?_
 refine R.ldH isAgg4 rfl rfl (l4 _ _ e8) rfl ?_
 refine mA ?_
 refine TL.gsplit 87 rfl (fun g87 => ?_) (fun g87 => ?_)
 refine mA ?_
 refine TL.shut .hd ?_
 intro r7 f2 k5
 have k6 := OwnS.read l5 f2 k5
 refine R.callv rfl rfl rfl (CH.round_c _ _ r83 k6 bA) ?_
 refine R.pkTE rfl rfl cA ?_
 refine nN ?_
 exact ⟨(roundR r83), f2, ⟨Has.nil, (by rw [if_t g87])⟩, rfl, rfl, rfl, rfl, rfl, rfl, trivial⟩
 refine oF ?_
 refine oF ?_
 refine R.pkFE rfl rfl cA ?_
 refine nN ?_
 exact ⟨false, HLe.refl _, ⟨Has.nil, (by rw [if_f g87])⟩, rfl, rfl, rfl, rfl, rfl, rfl, trivial⟩
 intro h0 σ_c4 H_c4 L_c4 ds_c4 j5 t0
 obtain ⟨hLc4, j6⟩ := t0
 refine T.has hLc4 ?_
 refine T.cond rfl (fun g8 => ?_) (fun g8 => ?_)
 refine T.set 90 (.bool true) (congrArg Value.bool g8) ?_
 have o2 := j6.trans g8
 try simp only [or_f, or_t, and_f, and_t, decide_eq_true_eq, decide_eq_false_iff_not, Bool.not_eq_true'] at o2
 refine sR (aA ?_)
 refine nN (T.has Has.nil ?_)
 refine T.ret (Post.thnR (Post.blkR (Post.thnR (Post.thnR (Post.blkR (Post.thnR ?_))))))
 have o3 : k_18 a1 a1.2.2.1 () = .ret false := by subst j4; rw [← m5, k_8 m6, k_18]; rw [LR.seq_go, j6, LR.seq_go, if_t g8]
 have hM : k_14 a0 = false := by subst j2; subst f3; rw [k_14, if_f f5, LR.seq_go, if_neg g6, LR.seq_go, o1, LR.on_go, o3, LR.on_ret]
 rotate_left
 refine T.set 90 (.bool false) (congrArg Value.bool g8) ?_
 have o2 := j6.trans g8
 try simp only [or_f, or_t, and_f, and_t, decide_eq_true_eq, decide_eq_false_iff_not, Bool.not_eq_true'] at o2
 refine T.skip (Post.thnN (sR ?_))
 refine fA underlying31 rfl sizeOf29 ?_
 refine R.ldH isAgg29 rfl rfl ((c8.trans (a4.trans (c3.trans (d9.trans (d2.trans (l4.trans j5)))))) _ _ d7) rfl ?_
 refine R.len underlying29 rfl rfl ?_
 refine mA ?_
 refine nN (T.block (T.loop (ι := Nat) (fun e2 H' L' ds' => e2 ≤ a1.2.2.2.length ∧ Has L' [] ∧ k_23 c2 (a1.2.2.2.drop e2) () = k_23 c2 a1.2.2.2 ()) (fun e2 => [(94, .int .i64 (e2 : Int)), (3, .pointer (some ⟨b3, 0, none⟩)), (15, .pointer (some ⟨p0, 0, none⟩)), (74, .slice a8 a1.2.2.1.length a9), (75, .int .i64 (a1.2.2.1.length : Int)), (76, .int .i64 (d6 : Int)), (92, .slice b0 a1.2.2.2.length b2), (93, .int .i64 (a1.2.2.2.length : Int))]) (fun e2 => a1.2.2.2.length - e2) 0 ?_ ?_ ?_))
 exact ⟨oA, Has.nil, (by rfl)⟩
 exact ⟨rfl, rfl, rfl, rfl, rfl, rfl, rfl, rfl, trivial⟩
 intro e2 σ_l5 H_l5 L_l5 ds_l5 j7 m7
 obtain ⟨hkl5, m7⟩ := m7
 obtain ⟨hLl5, o4⟩ := m7
 refine T.has hLl5 ?_
 refine sR (R.lss rfl rfl rfl ?_)
 refine nN (T.seq (T.condD rfl (fun c95 => ?_) (fun c95 => ?_)))
 have hltl5 : e2 < a1.2.2.2.length := by omega
 obtain ⟨e0, m8⟩ := getk (xs := a1.2.2.2) (k := e2) oA
 refine T.skip (Post.thnN (T.seq ?_))
 refine T.block (sR ?_)
 obtain ⟨b96, o96, i96, k96⟩ := RdS.elem (c7.mono (a6.trans (c8.trans (a4.trans (c3.trans (d9.trans (d2.trans (l4.trans (j5.trans j7))))))))) m8
 obtain ⟨l96, g96, k96⟩ := k96
 obtain ⟨z96_1, z96_2, rfl, m9, p1⟩ := g96
 obtain ⟨h1, h2, rfl, m96_1, n96_1, m9⟩ := m9.shape
 obtain ⟨h3, h4, rfl, m96_2, n96_2, p1⟩ := p1.shape
 have hR96 := (e6.row _ (List.mem_of_getElem? m8)).t
 refine R.ixp underlying29 sizeOf47 rfl rfl rfl oA i96 ?_
 refine R.ldK (l := [.int .i64 (e0.1), sl h1 e0.2.1 h2, sl h3 e0.2.2 h4]) isAgg47 sizeOf47 rfl rfl k96 rfl ?_
 refine R.alloc zeroValue47 rfl ?_
 intro b18
 refine stY (l := [.int .i64 (e0.1), sl h1 e0.2.1 h2, sl h3 e0.2.2 h4]) (new := [.int .i64 (e0.1), sl h1 e0.2.1 h2, sl h3 e0.2.2 h4]) .hd sizeOf47 rfl rfl ?_
 refine TL.shut .hd ?_
 intro q0 e9 q1
 have q2 : q0 b18 = some (.cells #[.int .i64 (e0.1), .slice h1 e0.2.1.length h2, .slice h3 e0.2.2.length h4] 47) := shut1 q1
 refine nN (T.seq (T.cutK (ι := Bool) (fun f6 H' L' ds' => Has L' [] ∧ (if c2.2.2.1 = true then (LR.seq (k_4f e0.2.1 c2.1) (fun o5 => (decide ((1 : Int) < (o5.length : Int))))) else false : Bool) = f6) (fun f6 => [(3, .pointer (some ⟨b3, 0, none⟩)), (15, .pointer (some ⟨p0, 0, none⟩)), (74, .slice a8 a1.2.2.1.length a9), (75, .int .i64 (a1.2.2.1.length : Int)), (76, .int .i64 (d6 : Int)), (92, .slice b0 a1.2.2.2.length b2), (93, .int .i64 (a1.2.2.2.length : Int)), (94, .int .i64 (e2 : Int)), (109, .bool (f6))]) ?_ ?_))
 refine T.region (fA underlying55 rfl sizeOf51 ?_)
 refine fA underlying51 rfl sizeOf4 ?_
 refine R.ldH isAgg4 rfl rfl ((l4.trans (j5.trans (j7.trans e9))) _ _ e8) rfl ?_
 refine mA ?_
 refine TL.gsplit 101 rfl (fun o6 => ?_) (fun o6 => ?_)
 refine fA underlying47 rfl sizeOf44 ?_
 refine R.ldH isAgg44 rfl rfl q2 rfl ?_
 refine fA underlying55 rfl sizeOf3 ?_
 refine R.ldH isAgg3 rfl rfl ((l4.trans (j5.trans (j7.trans e9))) _ _ e8) rfl ?_
 obtain ⟨o5, n0⟩ : ∃ r, r = (k_4f e0.2.1 c2.1) := ⟨_, rfl⟩
 refine TL.call [] rfl rfl rfl (types_Targets_c _ _ e0.2.1 (m9.mono e9) (c2.1) bA) ?_
 intro v106 H106 L106 s106 q6
 rw [← n0] at q6
 obtain ⟨u8, u9, rfl, rfl, o7⟩ := q6
 obtain ⟨v0, v1, rfl, v2, v3⟩ := OwnS.shape o7
 have tT106 := targets_len _ _ _ n0
 refine R.len underlying25 rfl rfl ?_
 refine R.gtr rfl rfl rfl ?_
 refine R.pkTE rfl rfl cA ?_
 refine nN ?_
 exact ⟨(decide ((1 : Int) < (o5.length : Int))), s106, ⟨Has.nil, (by subst n0; rw [if_t o6, LR.seq_go])⟩, rfl, rfl, rfl, rfl, rfl, rfl, rfl, rfl, rfl, trivial⟩
 refine oF ?_
 refine oF ?_
 refine oF ?_
 refine oF ?_
 refine oF ?_
 refine oF ?_
 refine oF ?_
 refine R.pkFE rfl rfl cA ?_
 refine nN ?_
 exact ⟨false, HLe.refl _, ⟨Has.nil, (by rw [if_f o6])⟩, rfl, rfl, rfl, rfl, rfl, rfl, rfl, rfl, rfl, trivial⟩
 intro f6 σ_c6 H_c6 L_c6 ds_c6 s_c6 t1
 obtain ⟨hLc6, n1⟩ := t1
 refine T.has hLc6 ?_
 refine T.cond rfl (fun f4 => ?_) (fun f4 => ?_)
 refine T.set 109 (.bool true) (congrArg Value.bool f4) ?_
 have n2 := n1.trans f4
 try simp only [or_f, or_t, and_f, and_t, decide_eq_true_eq, decide_eq_false_iff_not, Bool.not_eq_true'] at n2
 refine sR (aA ?_)
 refine nN (T.has Has.nil ?_)
 refine T.ret (Post.blkR (Post.thnR (Post.thnR (Post.blkR (Post.blkR (Post.thnR (Post.thnR (Post.blkR (Post.thnR ?_)))))))))
 have hXl5 : k_23 c2 a1.2.2.2 () = .ret (.ret false) := by rw [← o4, k_8 m8, k_23]; rw [n1, LR.seq_go, if_t f4]
 have o3 : k_18 a1 a1.2.2.1 () = .ret false := by subst j4; rw [← m5, k_8 m6, k_18]; rw [LR.seq_go, j6, LR.seq_go, if_f g8, hXl5, LR.on_ret]
 have hM : k_14 a0 = false := by subst j2; subst f3; rw [k_14, if_f f5, LR.seq_go, if_neg g6, LR.seq_go, o1, LR.on_go, o3, LR.on_ret]
 rotate_left
 refine T.set 109 (.bool false) (congrArg Value.bool f4) ?_
 have n2 := n1.trans f4
 try simp only [or_f, or_t, and_f, and_t, decide_eq_true_eq, decide_eq_false_iff_not, Bool.not_eq_true'] at n2
 refine T.skip (Post.blkN ?_)
 refine id (Post.thnN (T.region ?_))
 refine R.addI rfl rfl rfl oA ?_
 refine mA ?_
 refine nN ?_
 exact ⟨e2 + 1, (j7.trans (e9.trans s_c6)), ⟨oA, Has.nil, (by rw [← o4, k_8 m8, k_23]; rw [n1, LR.seq_go, if_f f4])⟩, by show a1.2.2.2.length - (e2 + 1) < a1.2.2.2.length - e2; omega, rfl, rfl, rfl, rfl, rfl, rfl, rfl, rfl, trivial⟩
 refine T.exit (Post.thnE (Post.thnE (Post.blkX ?_)))
 have hEl5 : k_23 c2 a1.2.2.2 () = .go () := (o4.symm.trans (by rw [show e2 = a1.2.2.2.length by omega, List.drop_length, k_23]))
 refine id (Post.blkN ?_)
 refine id (Post.thnN (T.region ?_))
 refine R.addI rfl rfl rfl oA ?_
 refine mA ?_
 refine nN ?_
 exact ⟨d6 + 1, (d9.trans (d2.trans (l4.trans (j5.trans j7)))), ⟨oA, Has.nil, (by subst j4; rw [← m5, k_8 m6, k_18]; rw [LR.seq_go, j6, LR.seq_go, if_f g8, hEl5, LR.on_go])⟩, by show a1.2.2.1.length - (d6 + 1) < a1.2.2.1.length - d6; omega, rfl, rfl, rfl, rfl, trivial⟩
 refine T.exit (Post.thnE (Post.thnE (Post.blkX ?_)))
 have hEl3 : k_18 a1 a1.2.2.1 () = .go () := (m5.symm.trans (by rw [show d6 = a1.2.2.1.length by omega, List.drop_length, k_18]))
 refine id (Post.thnN (sR ?_))
 refine aA ?_
 refine nN (T.has Has.nil ?_)
 refine T.ret ?_
 have hM : k_14 a0 = true := by subst j2; subst f3; rw [k_14, if_f f5, LR.seq_go, if_neg g6, LR.seq_go, o1, LR.on_go, hEl3, LR.on_go]
 exact fin1L (v := .bool true) [] rfl rfl (List.Sublist.refl _) ⟨rfl, by first | rw [hM] | rfl⟩
 all_goals (
  exact fin1L (v := .bool false) [] rfl rfl (List.Sublist.refl _) ⟨rfl, by first | rw [hM] | rfl⟩)
end Go.SX
namespace Go.SX
open Go
theorem relUp {l : List Rl} (h : RelOk l) : ∀ (d i : Nat), i + d < l.length → (l.getD i rl0).1 + d ≤ (l.getD (i + d) rl0).1
  | 0, i, hi => by simp
  | d + 1, i, hi => by
    have h1 := relUp h d i (by omega)
    have h2 := h.up (i + d) (by omega)
    rw [show i + d + 1 = i + (d + 1) by omega] at h2
    omega
theorem rel_at {l : List Rl} (h : RelOk l) {i : Nat} (hi : i < l.length) : (1 ≤ (l.getD i rl0).1 ∧ (l.getD i rl0).1 ≤ 1048578) ∧ MayT (l.getD i rl0).2 := h.idx i _ (k_46 hi)
theorem find_is {l : List Rl} (h : RelOk l) {n : Int} (hn : 0 ≤ n ∧ n < 1073741824) : (∃ i : Nat, i < l.length ∧ (l.getD i rl0).1 = n ∧ k_62 l n = ((i : Int), true)) ∨ ((∀ r ∈ l, r.1 ≠ n) ∧ (k_62 l n).2 = false) := by
  have hl : l.length ≤ 2000000 := by have := h.n2; omega
  have hf : ∀ p : Nat, p < l.length → k_41 (l.getD p rl0) n = (l.getD p rl0).1 - n := fun p hp => by
    have := (rel_at h hp).1
    unfold k_41
    exact wrap_i64 (by omega) (by omega)
  obtain ⟨k, e, k1, k2, k3, k4⟩ := bs_l1 (a := l) (n := n) (f := fun z0 z1 => k_41 z0 z1) hl (fun p q hpq hq hlt => by
    have e1 : k_41 (l.getD p rl0) n = _ := hf p (by omega)
    have e2 : k_41 (l.getD q rl0) n = _ := hf q hq
    show k_41 (l.getD p rl0) n < 0
    have hlt' : k_41 (l.getD q rl0) n < 0 := hlt
    rw [e1]; rw [e2] at hlt'
    have := relUp h (q - p) p (by omega)
    rw [show p + (q - p) = q by omega] at this
    omega) (((l.length : Int) - 0).toNat + 1) 0 l.length (by omega) (by omega) (by omega) (by omega)
  have hfind : k_62 l n = if k < (l.length : Int) then (k, decide ((l.getD k.toNat rl0).1 = n)) else (k, false) := by
    unfold k_62 k_11
    simp only [LR.seq]
    rw [e]
    simp only
    by_cases c : k < (l.length : Int)
    · rw [if_pos c, if_pos c]
      have := hf k.toNat (by omega)
      refine Prod.ext rfl ?_
      show decide (k_41 (l.getD k.toNat rl0) n = 0) = _
      rw [this, decide_eq_decide]; omega
    · rw [if_neg c, if_neg c]
  have hno : ∀ r ∈ l, r.1 = n → k < (l.length : Int) ∧ (l.getD k.toNat rl0).1 = n := fun r hr hrn => by
    obtain ⟨i, h1⟩ := List.mem_iff_getElem?.1 hr
    have hi := (List.getElem?_eq_some_iff.1 h1).1
    have hr : l.getD i rl0 = r := by rw [List.getD_eq_getElem?_getD, h1]; rfl
    have hk : k = i := by
      rcases Int.lt_trichotomy k i with c | c | c
      · exfalso
        have a1 := k4 k.toNat (by omega) (by omega)
        have a2 : ¬ k_41 (l.getD k.toNat rl0) n < 0 := a1
        rw [hf k.toNat (by omega)] at a2
        have := relUp h (i - k.toNat) k.toNat (by omega)
        rw [show k.toNat + (i - k.toNat) = i by omega, hr] at this
        omega
      · exact c
      · exfalso
        have a1 : k_41 (l.getD i rl0) n < 0 := k3 i (by omega) c
        rw [hf i hi, hr] at a1
        omega
    exact ⟨by omega, by rw [show k.toNat = i by omega, hr, hrn]⟩
  by_cases c : k < (l.length : Int)
  · rw [hfind, if_pos c]
    by_cases c2 : (l.getD k.toNat rl0).1 = n
    · exact .inl ⟨k.toNat, by omega, c2, by rw [decide_eq_true c2, Int.toNat_of_nonneg (by omega)]⟩
    · exact .inr ⟨fun r hr e => c2 (hno r hr e).2, decide_eq_false c2⟩
  · rw [hfind, if_neg c]
    exact .inr ⟨fun r hr e => c (hno r hr e).1, rfl⟩
theorem Find_is {l : List Rl} (h : RelOk l) {n : Int} (hn : 0 ≤ n ∧ n < 1073741824) : (∃ r ∈ l, r.1 = n ∧ k_29 l n = (r.2, true)) ∨ ((∀ r ∈ l, r.1 ≠ n) ∧ k_29 l n = (((false, false, 0, 0, 0) : Tr), false)) := by
  have hT : k_29 l n = if (k_62 l n).2 = true then ((l.getD (k_62 l n).1.toNat rl0).2, true) else (((false, false, 0, 0, 0) : Tr), false) := by
    unfold k_29
    rw [LR.seq_go, (tcheck_iff l).1.2 h, LR.seq_go]
    cases (k_62 l n).2 with
    | true => simp
    | false => simp
  rcases find_is h hn with ⟨i, hi, h1, h2⟩ | ⟨h1, h2⟩
  · refine .inl ⟨l.getD i rl0, List.mem_of_getElem? (k_46 hi), h1, ?_⟩
    rw [hT, h2, if_pos rfl, Int.toNat_natCast]
  · exact .inr ⟨h1, by rw [hT, h2, if_neg Bool.false_ne_true]⟩
end Go.SX
namespace Go.SX
open Go Go.Proofs Go.Proofs.Tryz
end Go.SX
namespace Go.SX
open Go
end Go.SX
namespace Go.SX
open Go
theorem adj_up {l : List Int} (h : ∀ i, i + 1 < l.length → l.getD i 0 < l.getD (i + 1) 0) : l.Pairwise (· < ·) := by
  rw [List.pairwise_iff_getElem]
  have key : ∀ (d i : Nat), i + d + 1 < l.length → l.getD i 0 < l.getD (i + d + 1) 0 := by
    intro d
    induction d with
    | zero => intro i hi; exact h i hi
    | succ d ih => intro i hi; exact Int.lt_trans (ih i (by omega)) (h (i + d + 1) (by omega))
  intro i j hi hj hij
  have := key (j - i - 1) i (by omega)
  rw [show i + (j - i - 1) + 1 = j by omega, List.getD_eq_getElem?_getD, List.getD_eq_getElem?_getD, List.getElem?_eq_getElem hi, List.getElem?_eq_getElem hj] at this
  exact this
theorem tcheck_l2 (a : List Int) : ∀ (xs : List Int) (k : Nat) (b : Bool), k_60 a xs k b = true → (b = true ∨ xs = []) ∧ ((xs = [] → b = true) ∧ ∀ (i : Nat) (y : Int), xs[i]? = some y → k_8a y = true ∧ (k + i = 0 ∨ a.getD (k + i - 1) 0 < y))
  | [], k, b, h => ⟨.inr rfl, fun _ => h, fun i y hy => by simp at hy⟩
  | x :: xs, k, b, h => by
    rw [k_60, LR.seq_go] at h
    cases hb : (if b = true then (if k_8a x = true then (if (k : Int) = 0 then true else decide (a.getD (((k : Int) - 1)).toNat 0 < x)) else false) else false) with
    | false => rw [hb] at h; cases h
    | true =>
      rw [hb, if_neg (by decide)] at h
      have ih := tcheck_l2 a xs (k + 1) true h
      have hb1 : b = true := by cases b with | true => rfl | false => simp at hb
      have hm : k_8a x = true := by
        cases hm : k_8a x with
        | true => rfl
        | false => rw [hb1, hm] at hb; simp at hb
      rw [if_pos hb1, if_pos hm] at hb
      refine ⟨.inl hb1, fun h => (by simp at h), fun i y hy => ?_⟩
      cases i with
      | zero =>
        obtain rfl : x = y := by simpa using hy
        refine ⟨hm, ?_⟩
        by_cases h0 : k = 0
        · exact .inl (by omega)
        · rw [if_neg (by omega)] at hb
          have := of_decide_eq_true hb
          rw [show ((k : Int) - 1).toNat = k + 0 - 1 by omega] at this
          exact .inr this
      | succ i =>
        obtain ⟨q1, q2⟩ := ih.2.2 i y (by simpa using hy)
        refine ⟨q1, .inr ?_⟩
        rcases q2 with q2 | q2
        · omega
        · rw [show k + (i + 1) - 1 = k + 1 + i - 1 by omega]; exact q2
theorem tcheck_ok {l : List Int} (h : k_52 l = 0) : l.length ≤ 12 ∧ l.Pairwise (· < ·) ∧ ∀ y ∈ l, k_8a y = true := by
  unfold k_52 at h
  simp only [LR.seq_go] at h
  cases hb : k_60 l l 0 (decide ((l.length : Int) ≤ 12)) with
  | false => rw [hb] at h; simp at h
  | true =>
    have q := tcheck_l2 l l 0 _ hb
    refine ⟨?_, adj_up (fun i hi => ?_), fun y hy => ?_⟩
    · rcases q.1 with q1 | q1
      · have := of_decide_eq_true q1; omega
      · rw [q1]; exact Nat.zero_le _
    · rcases (q.2.2 (i + 1) (l.getD (i + 1) 0) (by rw [List.getD_eq_getElem?_getD, List.getElem?_eq_getElem hi]; rfl)).2 with q1 | q1
      · omega
      · rw [show 0 + (i + 1) - 1 = i by omega] at q1; exact q1
    · obtain ⟨i, hi⟩ := List.mem_iff_getElem?.1 hy
      exact (q.2.2 i y hi).1
end Go.SX
namespace Go.SX
open Go
theorem at_ok (s : Sta) (n : Int) (hc : k_15 s = 0) : (k_79 s n).2 = (k_1b s n).2 := by
  unfold k_79
  simp only [LR.seq_go]
  generalize k_1b s n = q
  cases hq : q.2 with
  | false => simp
  | true => simp [hc]
theorem pairs_l2_mem (r : Rw) : ∀ (l : List Int) (p : Int × Int), p ∈ k_3a r l () → p.1 = r.1 ∧ p.2 ∈ l ∧ kindG p.2 = 3
  | [], p, h => by rw [k_3a] at h; cases h
  | y :: ys, p, h => by
    rw [k_3a] at h
    by_cases c : (kindG y : Int) = 3
    · rw [if_pos c] at h
      rcases List.mem_cons.1 h with rfl | h
      · exact ⟨rfl, List.mem_cons_self .., by exact_mod_cast c⟩
      · obtain ⟨h1, h2, h3⟩ := pairs_l2_mem r ys p h
        exact ⟨h1, List.mem_cons_of_mem _ h2, h3⟩
    · rw [if_neg c] at h
      obtain ⟨h1, h2, h3⟩ := pairs_l2_mem r ys p h
      exact ⟨h1, List.mem_cons_of_mem _ h2, h3⟩
theorem pairs_l1_mem : ∀ (l : List Rw) (p : Int × Int), p ∈ k_44 l () → ∃ r ∈ l, p.1 = r.1 ∧ p.2 ∈ r.2.1 ∧ kindG p.2 = 3
  | [], p, h => by rw [k_44] at h; cases h
  | y :: ys, p, h => by
    rw [k_44] at h
    rcases List.mem_append.1 h with h | h
    · exact ⟨y, List.mem_cons_self .., pairs_l2_mem y _ p h⟩
    · obtain ⟨r, h1, h2⟩ := pairs_l1_mem ys p h
      exact ⟨r, List.mem_cons_of_mem _ h1, h2⟩
theorem pairs_mem (s : Sta) (p : Int × Int) (h : p ∈ k_6b s) : ∃ r ∈ s.2.2.2, p.1 = r.1 ∧ p.2 ∈ r.2.1 ∧ kindG p.2 = 3 := by
  unfold k_6b k_6c at h
  rw [List.append_nil] at h
  exact pairs_l1_mem _ _ h
theorem held_r1 : ∀ (l a : List (Int × Int)), k_87 l a = a ++ l
  | [], a => by simp [k_87]
  | y :: ys, a => by rw [k_87, held_r1 ys]; simp
theorem held_eq (s : Sta) : k_69 s = if k_15 s = 0 then k_6b s else [] := by
  unfold k_69
  by_cases c : k_15 s = 0
  · rw [if_neg (fun h => h c), if_pos c, LR.seq_go, LR.seq_go, held_r1, List.nil_append]
  · rw [if_pos c, if_neg c]
theorem slinks_eq (s : Sta) (n : Int) (hc : k_15 s = 0) : k_7e s n = k_3c s n := by
  unfold k_7e
  rw [if_neg (fun h => h hc), LR.seq_go]
theorem width_find {l : List Rl} {w : W24} {id : Int} (hr : RelOk l) (hk : kindG id = 3) (hw : (k_28 l w id).2 = 0) : (k_29 l (k_1 id).1).2 = true := by
  unfold k_28 at hw
  have hc := (tcheck_iff l).1.2 hr
  rw [if_neg (fun h => h hc), LR.seq_go, if_neg (by omega), if_pos (by omega), LR.seq_go] at hw
  cases hf : (k_29 l (k_1 id).1).2 with
  | true => rfl
  | false => rw [hf] at hw; simp at hw
theorem find_rel {l : List Rl} {id : Int} (hr : RelOk l) (hk : kindG id = 3) (hf : (k_29 l (k_1 id).1).2 = true) : ∃ r ∈ l, r.1 = (k_1 id).1 ∧ k_29 l (k_1 id).1 = (r.2, true) := by
  have hi := (kind3_idx hk).1
  rcases Find_is hr (n := (k_1 id).1) ⟨by omega, by omega⟩ with ⟨r, h1, h2, h3⟩ | ⟨_, h2⟩
  · exact ⟨r, h1, h2, h3⟩
  · rw [h2] at hf; cases hf
theorem rel_inj {l : List Rl} (hr : RelOk l) {a b : Rl} (ha : a ∈ l) (hb : b ∈ l) (h : a.1 = b.1) : a = b := by
  obtain ⟨i, hi⟩ := List.mem_iff_getElem?.1 ha
  obtain ⟨j, hj⟩ := List.mem_iff_getElem?.1 hb
  have li := (List.getElem?_eq_some_iff.1 hi).1
  have lj := (List.getElem?_eq_some_iff.1 hj).1
  have ei : l.getD i rl0 = a := by rw [List.getD_eq_getElem?_getD, hi]; rfl
  have ej : l.getD j rl0 = b := by rw [List.getD_eq_getElem?_getD, hj]; rfl
  rcases Nat.lt_trichotomy i j with c | c | c
  · have := relUp hr (j - i) i (by omega)
    rw [show i + (j - i) = j by omega, ei, ej] at this; omega
  · subst c; rw [hi] at hj; injection hj
  · have := relUp hr (i - j) j (by omega)
    rw [show j + (i - j) = i by omega, ei, ej] at this; omega
theorem targets_k (l : List Int) (n : Int) (hc : k_52 l = 0) : k_4f l n = (l.filter (fun y => decide (kindG y = 3) && decide ((k_1 y).1 = n))).map (fun y => (k_1 y).2) := by
  unfold k_4f k_a0
  simp only [LR.seq_go]
  rw [gatherI_m, some_eq, if_pos hc]
  have e : (fun z0 => k_6d (fun z0 z1 => k_76 n z0 z1) z0) = (fun y => decide (kindG y = 3) && decide ((k_1 y).1 = n)) := by
    funext y
    unfold k_6d k_76
    rw [LR.seq_go]
    by_cases h : kindG y = 3
    · rw [if_pos (by omega), decide_eq_true h, Bool.true_and]
    · rw [if_neg (by omega), decide_eq_false h, Bool.false_and]
  rw [e]
  rfl
theorem repl_l2_nil (p : Int × Int) : ∀ (l acc : List Int), k_3f p l acc = [] → acc = [] ∧ ∀ y ∈ l, (k_82 p.1 y).2 = 0 → y = p.2
  | [], acc, h => ⟨by rw [k_3f] at h; exact h, fun y hy => by cases hy⟩
  | y :: ys, acc, h => by
    rw [k_3f, LR.seq_go, LR.seq_go] at h
    cases c : (if (k_82 p.1 y).2 = 0 then decide (y ≠ p.2) else false) with
    | true =>
      rw [c, if_pos rfl] at h
      have := (repl_l2_nil p ys _ h).1
      simp at this
    | false =>
      rw [c, if_neg Bool.false_ne_true] at h
      obtain ⟨h1, h2⟩ := repl_l2_nil p ys _ h
      refine ⟨h1, fun z hz hp => ?_⟩
      rcases List.mem_cons.1 hz with rfl | hz
      · rw [if_pos hp] at c
        have := of_decide_eq_false c
        simpa using this
      · exact h2 z hz hp
theorem repl_one {l : List Rl} {ty : List Int} {id : Int} {t : Tr} (hk : kindG id = 3) (hf : k_29 l (k_1 id).1 = (t, true)) (he : t.2.1 = true) (hc : k_52 ty = 0) (h : k_2e l ty id = []) : ∀ z ∈ ty, kindG z = 3 → (k_1 z).1 = (k_1 id).1 → (k_1 z).2 = (k_1 id).2 := by
  intro z hz hkz hz1
  unfold k_2e at h
  have hcond : (if kindG id ≠ 3 then true else (if (!true) = true then true else (!t.2.1))) = false := by rw [if_neg (fun q => q hk), if_neg (by decide), he]; rfl
  rw [LR.seq_go, hf, LR.seq_go, LR.seq_go] at h
  change (if (if kindG id ≠ 3 then true else (if (!true) = true then true else (!t.2.1))) = true then [] else _) = [] at h
  rw [hcond, if_neg Bool.false_ne_true, LR.seq_go, LR.seq_go] at h
  have h2 := (repl_l2_nil _ _ _ h).2 (k_1 z).2 (by
    rw [targets_k _ _ hc]
    exact List.mem_map.2 ⟨z, List.mem_filter.2 ⟨hz, by rw [decide_eq_true hkz, decide_eq_true hz1]; rfl⟩, rfl⟩) (by
    have h1 := (kind3_idx hk).1
    have h2 := (kind3_idx hkz).2
    unfold k_82
    rw [within2.2 ⟨⟨by omega, by omega⟩, ⟨by omega, by omega⟩⟩]; rfl)
  exact h2
theorem kind3_inj {x y : Int} (hx : kindG x = 3) (hy : kindG y = 3) (h1 : (k_1 x).1 = (k_1 y).1) (h2 : (k_1 x).2 = (k_1 y).2) : x = y := by
  obtain ⟨a1, a2, _⟩ := kind3_parts hx
  obtain ⟨b1, b2, _⟩ := kind3_parts hy
  rw [a1, b1] at h1 h2
  rw [a2, b2]
  simp only at h1 h2
  rw [h1, h2]
theorem excl_one {s : Sta} (hok : StOk s) {r : Rl} (hr : r ∈ s.2.2.1) (hx : r.2.2.1 = true) {w : Rw} (hw : w ∈ s.2.2.2) : (k_4f w.2.1 r.1).length ≤ 1 := by
  have hro := (tcheck_iff s.2.2.1).1.1 hok.rels
  have hrow := hok.row w hw
  rw [targets_k _ _ hrow.t, List.length_map]
  obtain ⟨_, hup, _⟩ := tcheck_ok hrow.t
  have hF := hup.filter (fun y => decide (kindG y = 3) && decide ((k_1 y).1 = r.1))
  have hm : ∀ z ∈ w.2.1.filter (fun y => decide (kindG y = 3) && decide ((k_1 y).1 = r.1)), z ∈ w.2.1 ∧ kindG z = 3 ∧ (k_1 z).1 = r.1 := fun z hz => by
    obtain ⟨h1, h2⟩ := List.mem_filter.1 hz
    simp only [Bool.and_eq_true, decide_eq_true_eq] at h2
    exact ⟨h1, h2.1, h2.2⟩
  generalize w.2.1.filter (fun y => decide (kindG y = 3) && decide ((k_1 y).1 = r.1)) = F at hF hm
  match F, hF, hm with
  | [], _, _ => exact Nat.zero_le _
  | [_], _, _ => exact Nat.le_refl _
  | z1 :: z2 :: zs, hF, hm =>
    exfalso
    obtain ⟨a1, a2, a3⟩ := hm z1 (List.mem_cons_self ..)
    obtain ⟨b1, b2, b3⟩ := hm z2 (List.mem_cons_of_mem _ (List.mem_cons_self ..))
    have hlt : z1 < z2 := (List.pairwise_cons.1 hF).1 z2 (List.mem_cons_self ..)
    have hi := (kind3_idx a2).1
    have hfind : k_29 s.2.2.1 (k_1 z1).1 = (r.2, true) := by
      rcases Find_is hro (n := (k_1 z1).1) ⟨by omega, by omega⟩ with ⟨q, q1, q2, q3⟩ | ⟨q1, _⟩
      · rw [rel_inj hro q1 hr (by rw [q2, a3])] at q3; exact q3
      · exact absurd a3.symm (q1 r hr)
    have := repl_one a2 hfind hx hrow.t (hrow.p z1 a1 a2).2 z2 b1 b2 (by rw [a3, b3])
    have := kind3_inj b2 a2 (by rw [a3, b3]) this
    omega
end Go.SX
namespace Go.SX
open Go
theorem sound_l1 {s : Sta} (hc : k_15 s = 0) (hok : StOk s) : ∀ (l : List (Int × Int)), (∀ h ∈ l, ∃ r ∈ s.2.2.2, h.2 ∈ r.2.1 ∧ kindG h.2 = 3) → k_22 s l () = .go ()
  | [], _ => rfl
  | y :: ys, h => by
    obtain ⟨r, hr, hm, hk⟩ := h y (List.mem_cons_self ..)
    have hro := (tcheck_iff s.2.2.1).1.1 hok.rels
    have hrow := hok.row r hr
    obtain ⟨k, hkk⟩ := List.mem_iff_getElem?.1 hm
    have hf := width_find hro hk (hrow.w k _ hkk).1
    obtain ⟨q, q1, q2, _⟩ := find_rel hro hk hf
    have h1 : (k_79 s (k_1 y.2).1).2 = true := by rw [at_ok _ _ hc, ← q2]; exact (hok.rel q q1).1
    have h2 : (k_79 s (k_1 y.2).2).2 = true := by rw [at_ok _ _ hc]; exact (hrow.p _ hm hk).1
    rw [k_22]
    simp only [LR.seq_go]
    rw [h1, h2, hf]
    simp only [Bool.not_true, Bool.false_eq_true, if_false]
    exact sound_l1 hc hok ys (fun z hz => h z (List.mem_cons_of_mem _ hz))
theorem sound_l5 {s : Sta} (hok : StOk s) {r : Rl} (hr : r ∈ s.2.2.1) : ∀ (l : List Rw), (∀ w ∈ l, w ∈ s.2.2.2) → k_23 r l () = .go ()
  | [], _ => rfl
  | y :: ys, h => by
    rw [k_23]
    simp only [LR.seq_go]
    have ih := sound_l5 hok hr ys (fun z hz => h z (List.mem_cons_of_mem _ hz))
    by_cases c : r.2.2.1 = true
    · have h1 := excl_one hok hr c (h y (List.mem_cons_self ..))
      rw [if_pos c, decide_eq_false (by omega), if_neg Bool.false_ne_true]; exact ih
    · rw [if_neg c, if_neg Bool.false_ne_true]; exact ih
theorem sound_l3 {s : Sta} (hc : k_15 s = 0) (hok : StOk s) : ∀ (l : List Rl), (∀ r ∈ l, r ∈ s.2.2.1) → k_18 s l () = .go ()
  | [], _ => rfl
  | y :: ys, h => by
    rw [k_18]
    simp only [LR.seq_go]
    have ih := sound_l3 hc hok ys (fun z hz => h z (List.mem_cons_of_mem _ hz))
    have hy := h y (List.mem_cons_self ..)
    rw [slinks_eq _ _ hc]
    have h1 : (if y.2.1 = true then roundR (k_3c s y.1) else false) = false := by
      by_cases c : y.2.1 = true
      · rw [if_pos c]; exact (hok.rel y hy).2 c
      · rw [if_neg c]
    rw [h1, if_neg Bool.false_ne_true, sound_l5 hok hy _ (fun w hw => hw), LR.on_go]
    exact ih
theorem stateSound_true (x : Sta) : k_14 x = true := by
  unfold k_14
  rw [w19_true, Bool.not_true, if_neg Bool.false_ne_true, LR.seq_go]
  generalize k_a x = s
  by_cases c : k_15 s = 0
  · have hok := (scheck_iff s).1.1 c
    rw [if_neg (fun h => h c), LR.seq_go, held_eq, if_pos c, sound_l1 c hok _ (fun h hm => by
      obtain ⟨r, h1, _, h2, h3⟩ := pairs_mem s h hm
      exact ⟨r, h1, h2, h3⟩), LR.on_go, sound_l3 c hok _ (fun r h => h), LR.on_go]
  · rw [if_pos c, LR.seq_go, held_eq, if_neg c]; rfl
end Go.SX
namespace Go.SX
open Go Go.ChangeShapes Go.WideShapes Go.ChangeAt Go.RowKit
def heapOf (W : World) : Heap := fun b => W.heap[b]?
theorem sat_heapOf (W : World) : Sat (heapOf W) [] W := ⟨fun _ _ h => h, fun p h => (by cases h), List.nodup_nil, fun p h => (by cases h)⟩
theorem calls_of_Fv {P : Program} {f : FuncId} {fn : Func} {c : Code} {vs : List Value} {v : Value} {W : World} (hf : P.funcs[f]? = some fn) (hb : fn.body = some c) (hname : (fn.name == "runtime.NumGoroutine") = false)
    (h : Fv P (fnv f) vs (heapOf W) v) : Calls P f vs.toArray W fun e W' => e = .returned v ∧ Below W.heap.size W W' := by
  obtain ⟨nx, w1, h1, h2⟩ := h W (sat_heapOf W)
  have he := Go.Proofs.enters_of (P := P) hf hname hb vs.toArray W
  have hrun : Sem.run P (do let d ← Deferred.ofValue (fnv f) vs.toArray; invoke d.target d.args) W = .ok (.enter f vs.toArray) W := by
    simp [Deferred.ofValue, invoke, he]
  rw [hrun] at h1
  injection h1 with h1 h3
  subst h1; subst h3
  refine callsIn_wide.1 (CallsIn.mono h2 ?_)
  rintro e w' ⟨u, H', L', rfl, hst, rfl, rfl⟩
  exact ⟨rfl, hst.chg.os, hst.chg.tape, hst.chg.output, hst.chg.size, fun b hb => hst.chg.same b hb (by simp [keys])⟩
section
variable {H : Type} {enc : TypeId × Value → H} {P : Program}
theorem trodAll_below (hl : laidOutB P = true) {W W' : World} (hb : Below W.heap.size W W') {sp : Nat → Bool} : ∀ {ts : List TypeId} {vs : List Value} {ds : List (DataW H)} {p : List MemPlace},
    (∀ t ∈ ts, P.readableRec t = true ∧ t < P.types.size) → DataW.TrodAll enc P W 0 (fun _ => true) true ts vs ds p → (∀ q ∈ p, q.block < W.heap.size ∧ sp q.block = true) → DataW.TrodAll enc P W' 0 sp true ts vs ds p
  | [], _, _, _, _, h, _ => by
    obtain ⟨rfl, rfl, rfl⟩ := trodAll_nil h
    exact trodAll_mk0
  | t :: ts, _, _, _, ht, h, hp => by
    obtain ⟨v, vs, d, ds, a, b, rfl, rfl, rfl, h1, h2⟩ := trodAll_cons h
    have h3 := WideElems.Trod_stays (sp' := sp) hl (ht t (List.mem_cons_self ..)).1 (ht t (List.mem_cons_self ..)).2 h1 (fun x hx => hb.same (hp x (List.mem_append_left _ hx)).1) (fun x hx => (hp x (List.mem_append_left _ hx)).2)
    exact ⟨a, b, h3, trodAll_below hl hb (fun t' h' => ht t' (List.mem_cons_of_mem _ h')) h2 (fun x hx => hp x (List.mem_append_right _ hx)), rfl⟩
theorem post_true {f : Func} {s : ChangeSpec} {fresh handsOn again : Bool} {W W' : World} {args : Array Value} {ds gs : List (DataW H)} {before : List MemPlace} {tb : TypeId} (hl : laidOutB P = true)
    (hW : DataW.Whole enc P f.params.toList s.vars false W args.toList ds gs before) (hvars : s.vars = []) (hpar : ∀ t ∈ f.params.toList, P.readableRec t = true ∧ t < P.types.size)
    (hs : s.fn H (ds ++ gs) = { results := [.lit (.bool true)], args := ds }) (hrt : f.resultTypes = #[tb]) (htb : P.underlying tb = some .bool) (hb : Below W.heap.size W W') :
    s.post enc P f false fresh handsOn again W args (.bool true) W' := by
  have hlt := hW.lt
  have hW0 := hW
  obtain ⟨p, q, hA, hV, rfl, hfz, hnd⟩ := hW
  rw [hvars] at hV
  obtain ⟨rfl, rfl⟩ := trodVars_none hV
  rw [List.append_nil] at hfz hlt
  have hres : ∀ (b : Nat) (sp : Nat → Bool) (hd : Bool), DataW.TrodAll enc P W' b sp hd f.resultTypes.toList ((Value.bool true).resultList f.resultTypes.size) [.lit (.bool true)] [] := by
    intro b sp hd
    rw [hrt]
    exact trodAll_mk1 (shut_bool htb true)
  have hargs : ∀ sp : Nat → Bool, (∀ x ∈ p, sp x.block = true) → DataW.TrodAll enc P W' 0 sp true f.params.toList args.toList ds p := fun sp hsp =>
    trodAll_below hl hb hpar hA (fun x hx => ⟨hlt x hx, hsp x hx⟩)
  have hvr : ∀ sp : Nat → Bool, DataW.TrodVars enc P W' sp s.vars ([] : List (DataW H)) [] := fun sp => by rw [hvars]; rfl
  refine ⟨ds, [], p ++ [], [], p, [], hW0, ?_, ?_, ?_, World.keptBut_mono (fun x hx => ⟨hx, ?_⟩) (hb.frame (· ∈ p ++ [])), fun _ => ?_⟩
  · rw [hs]; exact hres _ _ _
  · rw [hs]; exact hargs _ (fun x hx => by simpa using hlt x hx)
  · rw [hs]; exact hvr _
  · exact Or.inr (by simpa using hx)
  · refine ⟨ok_one hrt rfl (okWide_bool_mk htb true), _, _, ([] ++ p) ++ [], ⟨[] ++ p, [], trodAll_append (hargs _ (fun _ _ => rfl)) (hres _ _ _), hvr _, rfl, ?_, fun h => by cases h⟩, ?_⟩
    · intro b off hp
      have hp' : MemPlace.cell b off ∈ p := by simpa using hp
      have := hb.frozen (p := ⟨b, off, none⟩) (hlt _ hp')
      rw [this]
      exact hfz b off hp'
    · intro x hx _
      simpa using hx
theorem cellAt_heapOf {W : World} {b o : Nat} {v : Value} (h : W.cell? ⟨b, o, none⟩ = some v) : cellAt (heapOf W) b o = some v := by
  unfold World.cell? at h
  unfold cellAt heapOf
  simp only at h
  revert h
  cases hb : W.heap[b]? with
  | none => intro h; simp at h
  | some ob => cases ob <;> intro h <;> simp_all
end
end Go.SX
namespace Go.SX
open Go Go.ChangeShapes Go.WideShapes Go.ChangeAt Go.RowKit
theorem laid_var {P : Program} {w : World} : ∀ {l : List (String × DataW Unit)} {ps : List MemPlace}, DataW.LaidVars P w l ps → ∀ {n : String} {d : DataW Unit}, (n, d) ∈ l →
    ∃ g t cs fuel p, P.globalNamed n = some g ∧ (P.globals[g]?).map (·.type) = some t ∧ w.var? P n = some cs ∧ DataW.trod (fun _ => ()) P w 0 (fun _ => true) false fuel t cs.toList = some (d, p) ∧ ∀ x ∈ MemPlace.row ⟨g, 0, none⟩ cs.size, x ∈ ps
  | [], ps, h, n, d, hm => by cases hm
  | (n0, d0) :: r, ps, h, n, d, hm => by
    obtain ⟨g, t, cs, f, p, q, h1, h2, h3, h4, h5, rfl⟩ := h
    rcases List.mem_cons.1 hm with e | hm
    · cases e; exact ⟨g, t, cs, f, p, h1, h2, h3, h4, fun x hx => List.mem_append_left _ (List.mem_append_left _ hx)⟩
    · obtain ⟨g', t', cs', f', p', a1, a2, a3, a4, a5⟩ := laid_var h5 hm
      exact ⟨g', t', cs', f', p', a1, a2, a3, a4, fun x hx => List.mem_append_right _ (a5 x hx)⟩
end Go.SX
namespace Go.SX
open Go Go.ChangeShapes Go.WideShapes Go.ChangeAt Go.RowKit Go.Deep
def Opn (P : Program) (t : TypeId) {α : Type} (E : ER α) (Q : α → Prop) : Prop :=
  ∀ (H : Type) (enc : TypeId × Value → H) (W : World) (sp : Nat → Bool) (hd : Bool) (n : Nat) (cs : List Value) (x : DataW H × List MemPlace), DataW.trod enc P W 0 sp hd n t cs = some x → ∃ a, E.R (heapOf W) cs a ∧ Q a
theorem Opn.int {P : Program} {t : TypeId} {k : IntKind} (ht : P.underlying t = some (.int k)) : Opn P t (intE k) (fun x => (Lit.int k x).wf = true) := fun H enc W sp hd n cs x h => by
  obtain ⟨n, rfl, _, hw⟩ := DataW.trod_int ht h
  exact ⟨n, rfl, hw⟩
theorem Opn.slice {P : Program} {t e : TypeId} {α : Type} {E : ER α} {Q : α → Prop} (ht : P.underlying t = some (.slice e)) (hc : P.cellsOf e = E.size) (he : Opn P e E Q) (hs : 0 < E.size) : Opn P t (slE E) (fun xs => ∀ x ∈ xs, Q x) := fun H enc W sp hd n cs x h => by
  rcases open_slice ht h with ⟨rfl, _⟩ | ⟨a, len, cap, m, n', D, Pl, rfl, _, hl, hm, hmm, _, hx⟩
  · exact ⟨[], ⟨_, rfl, RdS.nil⟩, fun x hx => by simp at hx⟩
  · have key : ∀ i, i < len → ∃ x, (∃ b o, a = ⟨b, o, none⟩ ∧ ElemAt E (heapOf W) b (o + i * E.size) x) ∧ Q x := fun i hi => by
      obtain ⟨cs', h1, h2⟩ := hx i (by rw [hmm]; split <;> omega)
      obtain ⟨x, h3, h4⟩ := he H enc W sp hd n' cs' _ h2
      refine ⟨x, ?_, h4⟩
      rw [hc] at h1
      obtain ⟨_, hlen, hcell⟩ := World.cells?_some h1
      obtain ⟨ab, ao, asp⟩ := a
      cases asp with
      | none =>
        refine ⟨ab, ao, rfl, cs', h3, fun j u hj => ?_⟩
        have hjl : j < E.size := by rw [← hlen]; exact (List.getElem?_eq_some_iff.1 hj).1
        have h5 := hcell j hjl
        rw [hj, add_add, Addr.add_lit] at h5
        have := cellAt_heapOf h5
        rw [show ao + i * E.size + j = ao + (i * E.size + j) by omega]
        exact this
      | some s =>
        exfalso
        obtain ⟨cs0, k1, _⟩ := hx 0 (by rw [hmm]; split <;> omega)
        rw [hc, Nat.zero_mul, Addr.add_zero'] at k1
        obtain ⟨_, klen, kcell⟩ := World.cells?_some k1
        have h5 := kcell 0 hs
        rw [Addr.add_zero'] at h5
        obtain ⟨u, hu⟩ : ∃ u, cs0[0]? = some u := ⟨cs0[0], List.getElem?_eq_getElem (by omega)⟩
        rw [hu] at h5
        unfold World.cell? at h5
        revert h5
        cases hb : W.heap[ab]? with
        | none => intro h; simp [hb] at h
        | some ob => cases ob <;> intro h <;> simp [hb] at h
    obtain ⟨f, hf⟩ : ∃ f : Nat → Option α, ∀ i, i < len → ∃ x, f i = some x ∧ (∃ b o, a = ⟨b, o, none⟩ ∧ ElemAt E (heapOf W) b (o + i * E.size) x) ∧ Q x := by
      classical
      refine ⟨fun i => if hi : i < len then some (Classical.choose (key i hi)) else none, fun i hi => ?_⟩
      exact ⟨_, dif_pos hi, Classical.choose_spec (key i hi)⟩
    have hxs : ∀ n, n ≤ len → ∃ xs : List α, xs.length = n ∧ ∀ i, i < n → xs[i]? = f i := fun n => by
      induction n with
      | zero => exact fun _ => ⟨[], rfl, fun i hi => absurd hi (Nat.not_lt_zero _)⟩
      | succ n ih =>
        intro hn
        obtain ⟨xs, h1, h2⟩ := ih (by omega)
        obtain ⟨x, h3, _⟩ := hf n (by omega)
        refine ⟨xs ++ [x], by simp [h1], fun i hi => ?_⟩
        by_cases h : i < n
        · rw [List.getElem?_append_left (by omega)]; exact h2 i h
        · obtain rfl : i = n := by omega
          rw [List.getElem?_append_right (by omega), h1, Nat.sub_self, h3]; rfl
    obtain ⟨xs, h1, h2⟩ := hxs len (Nat.le_refl _)
    subst h1
    refine ⟨xs, ⟨_, rfl, some a, cap, rfl, hl, hm, fun i x hx => ?_⟩, fun x hx => ?_⟩
    · have hi : i < xs.length := (List.getElem?_eq_some_iff.1 hx).1
      obtain ⟨y, h3, ⟨b, o, h4, h5⟩, _⟩ := hf i hi
      rw [h2 i hi, h3] at hx
      injection hx with hx
      subst hx
      exact ⟨b, o, by rw [h4], h5⟩
    · obtain ⟨i, hi, rfl⟩ := List.mem_iff_getElem.1 hx
      obtain ⟨y, h3, _, h4⟩ := hf i hi
      have := h2 i hi
      rw [h3, List.getElem?_eq_getElem hi] at this
      injection this with this
      rw [this]; exact h4
section
variable {P : Program} {H : Type} {enc : TypeId × Value → H} {W : World} {r : Reach} {b0 : Nat} {t : TypeId} {v : Value} {d : DataW H} {p : List MemPlace} {α : Type} {E : ER α} {Q : α → Prop}
theorem open_agg (hu : (∃ fs, P.underlying t = some (.struct fs)) ∨ ∃ n e, P.underlying t = some (.array n e)) (ho : Opn P t E Q) (hval : Value.okWide P W r b0 t v) (h : DataW.Trod enc P W 0 (fun _ => true) true t v d p) :
    ∃ cs a, v = .agg cs ∧ E.R (heapOf W) cs.toList a ∧ Q a := by
  have hv : ∃ cs, v = .agg cs := by
    unfold Value.okWide at hval
    rcases hu with ⟨fs, hu⟩ | ⟨n, e, hu⟩
    · rw [hu] at hval; obtain ⟨cs, h1, _⟩ := hval; exact ⟨cs, h1⟩
    · rw [hu] at hval; obtain ⟨cs, h1, _⟩ := hval; exact ⟨cs, h1⟩
  obtain ⟨cs, rfl⟩ := hv
  obtain ⟨n, hn⟩ := h
  obtain ⟨a, h1, h2⟩ := ho H enc W _ _ n _ _ hn
  exact ⟨cs, a, rfl, h1, h2⟩
end
end Go.SX
namespace Go.SX
open Go Go.ChangeShapes Go.WideShapes Go.ChangeAt Go.RowKit Go.Proofs
def stateE : ER (W24 × (Int × (List (Int × Bool)) × (List Int)) × (List (Int × (Bool × Bool × Int × Int × Int))) × (List (Int × (List Int) × (List (List Int))))) where
  size := 29
  R := fun H cs x => ∃ v25 v26 v27 v28, cs = [.int .i64 (x.1 0), .int .i64 (x.1 1), .int .i64 (x.1 2), .int .i64 (x.1 3), .int .i64 (x.1 4), .int .i64 (x.1 5), .int .i64 (x.1 6), .int .i64 (x.1 7), .int .i64 (x.1 8), .int .i64 (x.1 9), .int .i64 (x.1 10), .int .i64 (x.1 11), .int .i64 (x.1 12), .int .i64 (x.1 13), .int .i64 (x.1 14), .int .i64 (x.1 15), .int .i64 (x.1 16), .int .i64 (x.1 17), .int .i64 (x.1 18), .int .i64 (x.1 19), .int .i64 (x.1 20), .int .i64 (x.1 21), .int .i64 (x.1 22), .int .i64 (x.1 23), .int .i64 x.2.1.1, v25, v26, v27, v28] ∧ RdS slotE H v25 x.2.1.2.1 ∧ RdS (intE .i64) H v26 x.2.1.2.2 ∧ RdS relationE H v27 x.2.2.1 ∧ RdS rowE H v28 x.2.2.2
  len := fun h => by obtain ⟨v25, v26, v27, v28, rfl, _⟩ := h; rfl
  mono := fun hl h => by obtain ⟨v25, v26, v27, v28, rfl, h0, h1, h2, h3⟩ := h; exact ⟨v25, v26, v27, v28, rfl, h0.mono hl, h1.mono hl, h2.mono hl, h3.mono hl⟩
  one := fun h v hv => by
    obtain ⟨v25, v26, v27, v28, rfl, h0, h1, h2, h3⟩ := h
    simp only [List.mem_cons, List.not_mem_nil, or_false] at hv
    rcases hv with rfl | rfl | rfl | rfl | rfl | rfl | rfl | rfl | rfl | rfl | rfl | rfl | rfl | rfl | rfl | rfl | rfl | rfl | rfl | rfl | rfl | rfl | rfl | rfl | rfl | rfl | rfl | rfl | rfl <;> first | rfl | exact RdS.one (by assumption)
def allocE : ER (Int × (List (Int × Bool)) × (List Int)) where
  size := 3
  R := fun H cs x => ∃ v1 v2, cs = [.int .i64 x.1, v1, v2] ∧ RdS slotE H v1 x.2.1 ∧ RdS (intE .i64) H v2 x.2.2
  len := fun h => by obtain ⟨v1, v2, rfl, _⟩ := h; rfl
  mono := fun hl h => by obtain ⟨v1, v2, rfl, h0, h1⟩ := h; exact ⟨v1, v2, rfl, h0.mono hl, h1.mono hl⟩
  one := fun h v hv => by
    obtain ⟨v1, v2, rfl, h0, h1⟩ := h
    simp only [List.mem_cons, List.not_mem_nil, or_false] at hv
    rcases hv with rfl | rfl | rfl <;> first | rfl | exact RdS.one (by assumption)
def traitsE : ER (Bool × Bool × Int × Int × Int) where
  size := 5
  R := fun _ cs x => cs = [.bool x.1, .bool x.2.1, .int .i64 x.2.2.1, .int .i64 x.2.2.2.1, .int .i64 x.2.2.2.2]
  len := fun h => by subst h; rfl
  mono := fun _ h => h
  one := fun h v hv => by subst h; simp only [List.mem_cons, List.not_mem_nil, or_false] at hv; rcases hv with rfl | rfl | rfl | rfl | rfl <;> rfl
theorem lenN2 {α : Type} {l : List α} (h : l.length = 2) : ∃ v0 v1, l = [v0, v1] := by
  match l, h with
  | [v0, v1], _ => exact ⟨v0, v1, rfl⟩
theorem lenN3 {α : Type} {l : List α} (h : l.length = 3) : ∃ v0 v1 v2, l = [v0, v1, v2] := by
  match l, h with
  | [v0, v1, v2], _ => exact ⟨v0, v1, v2, rfl⟩
theorem lenN4 {α : Type} {l : List α} (h : l.length = 4) : ∃ v0 v1 v2 v3, l = [v0, v1, v2, v3] := by
  match l, h with
  | [v0, v1, v2, v3], _ => exact ⟨v0, v1, v2, v3, rfl⟩
theorem lenN5 {α : Type} {l : List α} (h : l.length = 5) : ∃ v0 v1 v2 v3 v4, l = [v0, v1, v2, v3, v4] := by
  match l, h with
  | [v0, v1, v2, v3, v4], _ => exact ⟨v0, v1, v2, v3, v4, rfl⟩
theorem lenN6 {α : Type} {l : List α} (h : l.length = 6) : ∃ v0 v1 v2 v3 v4 v5, l = [v0, v1, v2, v3, v4, v5] := by
  match l, h with
  | [v0, v1, v2, v3, v4, v5], _ => exact ⟨v0, v1, v2, v3, v4, v5, rfl⟩
theorem lenN12 {α : Type} {l : List α} (h : l.length = 12) : ∃ v0 v1 v2 v3 v4 v5 v6 v7 v8 v9 v10 v11, l = [v0, v1, v2, v3, v4, v5, v6, v7, v8, v9, v10, v11] := by
  match l, h with
  | [v0, v1, v2, v3, v4, v5, v6, v7, v8, v9, v10, v11], _ => exact ⟨v0, v1, v2, v3, v4, v5, v6, v7, v8, v9, v10, v11, rfl⟩
theorem lenN24 {α : Type} {l : List α} (h : l.length = 24) : ∃ v0 v1 v2 v3 v4 v5 v6 v7 v8 v9 v10 v11 v12 v13 v14 v15 v16 v17 v18 v19 v20 v21 v22 v23, l = [v0, v1, v2, v3, v4, v5, v6, v7, v8, v9, v10, v11, v12, v13, v14, v15, v16, v17, v18, v19, v20, v21, v22, v23] := by
  match l, h with
  | [v0, v1, v2, v3, v4, v5, v6, v7, v8, v9, v10, v11, v12, v13, v14, v15, v16, v17, v18, v19, v20, v21, v22, v23], _ => exact ⟨v0, v1, v2, v3, v4, v5, v6, v7, v8, v9, v10, v11, v12, v13, v14, v15, v16, v17, v18, v19, v20, v21, v22, v23, rfl⟩
theorem lenN29 {α : Type} {l : List α} (h : l.length = 29) : ∃ v0 v1 v2 v3 v4 v5 v6 v7 v8 v9 v10 v11 v12 v13 v14 v15 v16 v17 v18 v19 v20 v21 v22 v23 v24 v25 v26 v27 v28, l = [v0, v1, v2, v3, v4, v5, v6, v7, v8, v9, v10, v11, v12, v13, v14, v15, v16, v17, v18, v19, v20, v21, v22, v23, v24, v25, v26, v27, v28] := by
  match l, h with
  | [v0, v1, v2, v3, v4, v5, v6, v7, v8, v9, v10, v11, v12, v13, v14, v15, v16, v17, v18, v19, v20, v21, v22, v23, v24, v25, v26, v27, v28], _ => exact ⟨v0, v1, v2, v3, v4, v5, v6, v7, v8, v9, v10, v11, v12, v13, v14, v15, v16, v17, v18, v19, v20, v21, v22, v23, v24, v25, v26, v27, v28, rfl⟩
def w24E : ER W24 where
  size := 24
  R := fun _ cs w => cs = [.int .i64 (w 0), .int .i64 (w 1), .int .i64 (w 2), .int .i64 (w 3), .int .i64 (w 4), .int .i64 (w 5), .int .i64 (w 6), .int .i64 (w 7), .int .i64 (w 8), .int .i64 (w 9), .int .i64 (w 10), .int .i64 (w 11), .int .i64 (w 12), .int .i64 (w 13), .int .i64 (w 14), .int .i64 (w 15), .int .i64 (w 16), .int .i64 (w 17), .int .i64 (w 18), .int .i64 (w 19), .int .i64 (w 20), .int .i64 (w 21), .int .i64 (w 22), .int .i64 (w 23)]
  len := fun h => by subst h; rfl
  mono := fun _ h => h
  one := fun h => by subst h; exact k_3 rfl
theorem opn23 : Opn Tryz.prog 23 w24E (fun _ => True) := fun H enc W sp hd n cs x h => by
  obtain ⟨xs, m, _, _, hl, hxl, hf⟩ := DataW.trod_array Tryz.underlying23 h
  rw [show Tryz.prog.cellsOf 23 = 24 by kernel_rfl] at hl
  replace hxl : xs.length = 24 := hxl
  obtain ⟨v0, v1, v2, v3, v4, v5, v6, v7, v8, v9, v10, v11, v12, v13, v14, v15, v16, v17, v18, v19, v20, v21, v22, v23, rfl⟩ := lenN24 hl
  obtain ⟨y0, y1, y2, y3, y4, y5, y6, y7, y8, y9, y10, y11, y12, y13, y14, y15, y16, y17, y18, y19, y20, y21, y22, y23, rfl⟩ := lenN24 hxl
  have hc : Tryz.prog.cellsOf 3 = 1 := by kernel_rfl
  simp only [hc] at hf
  have g0 : DataW.trod enc Tryz.prog W 0 sp hd m 3 [v0] = some y0 := hf 0 (by decide)
  obtain ⟨x0, h0, _, w0⟩ := DataW.trod_int Tryz.underlying3 g0
  injection h0 with h0; subst h0
  have g1 : DataW.trod enc Tryz.prog W 0 sp hd m 3 [v1] = some y1 := hf 1 (by decide)
  obtain ⟨x1, h1, _, w1⟩ := DataW.trod_int Tryz.underlying3 g1
  injection h1 with h1; subst h1
  have g2 : DataW.trod enc Tryz.prog W 0 sp hd m 3 [v2] = some y2 := hf 2 (by decide)
  obtain ⟨x2, h2, _, w2⟩ := DataW.trod_int Tryz.underlying3 g2
  injection h2 with h2; subst h2
  have g3 : DataW.trod enc Tryz.prog W 0 sp hd m 3 [v3] = some y3 := hf 3 (by decide)
  obtain ⟨x3, h3, _, w3⟩ := DataW.trod_int Tryz.underlying3 g3
  injection h3 with h3; subst h3
  have g4 : DataW.trod enc Tryz.prog W 0 sp hd m 3 [v4] = some y4 := hf 4 (by decide)
  obtain ⟨x4, h4, _, w4⟩ := DataW.trod_int Tryz.underlying3 g4
  injection h4 with h4; subst h4
  have g5 : DataW.trod enc Tryz.prog W 0 sp hd m 3 [v5] = some y5 := hf 5 (by decide)
  obtain ⟨x5, h5, _, w5⟩ := DataW.trod_int Tryz.underlying3 g5
  injection h5 with h5; subst h5
  have g6 : DataW.trod enc Tryz.prog W 0 sp hd m 3 [v6] = some y6 := hf 6 (by decide)
  obtain ⟨x6, h6, _, w6⟩ := DataW.trod_int Tryz.underlying3 g6
  injection h6 with h6; subst h6
  have g7 : DataW.trod enc Tryz.prog W 0 sp hd m 3 [v7] = some y7 := hf 7 (by decide)
  obtain ⟨x7, h7, _, w7⟩ := DataW.trod_int Tryz.underlying3 g7
  injection h7 with h7; subst h7
  have g8 : DataW.trod enc Tryz.prog W 0 sp hd m 3 [v8] = some y8 := hf 8 (by decide)
  obtain ⟨x8, h8, _, w8⟩ := DataW.trod_int Tryz.underlying3 g8
  injection h8 with h8; subst h8
  have g9 : DataW.trod enc Tryz.prog W 0 sp hd m 3 [v9] = some y9 := hf 9 (by decide)
  obtain ⟨x9, h9, _, w9⟩ := DataW.trod_int Tryz.underlying3 g9
  injection h9 with h9; subst h9
  have g10 : DataW.trod enc Tryz.prog W 0 sp hd m 3 [v10] = some y10 := hf 10 (by decide)
  obtain ⟨x10, h10, _, w10⟩ := DataW.trod_int Tryz.underlying3 g10
  injection h10 with h10; subst h10
  have g11 : DataW.trod enc Tryz.prog W 0 sp hd m 3 [v11] = some y11 := hf 11 (by decide)
  obtain ⟨x11, h11, _, w11⟩ := DataW.trod_int Tryz.underlying3 g11
  injection h11 with h11; subst h11
  have g12 : DataW.trod enc Tryz.prog W 0 sp hd m 3 [v12] = some y12 := hf 12 (by decide)
  obtain ⟨x12, h12, _, w12⟩ := DataW.trod_int Tryz.underlying3 g12
  injection h12 with h12; subst h12
  have g13 : DataW.trod enc Tryz.prog W 0 sp hd m 3 [v13] = some y13 := hf 13 (by decide)
  obtain ⟨x13, h13, _, w13⟩ := DataW.trod_int Tryz.underlying3 g13
  injection h13 with h13; subst h13
  have g14 : DataW.trod enc Tryz.prog W 0 sp hd m 3 [v14] = some y14 := hf 14 (by decide)
  obtain ⟨x14, h14, _, w14⟩ := DataW.trod_int Tryz.underlying3 g14
  injection h14 with h14; subst h14
  have g15 : DataW.trod enc Tryz.prog W 0 sp hd m 3 [v15] = some y15 := hf 15 (by decide)
  obtain ⟨x15, h15, _, w15⟩ := DataW.trod_int Tryz.underlying3 g15
  injection h15 with h15; subst h15
  have g16 : DataW.trod enc Tryz.prog W 0 sp hd m 3 [v16] = some y16 := hf 16 (by decide)
  obtain ⟨x16, h16, _, w16⟩ := DataW.trod_int Tryz.underlying3 g16
  injection h16 with h16; subst h16
  have g17 : DataW.trod enc Tryz.prog W 0 sp hd m 3 [v17] = some y17 := hf 17 (by decide)
  obtain ⟨x17, h17, _, w17⟩ := DataW.trod_int Tryz.underlying3 g17
  injection h17 with h17; subst h17
  have g18 : DataW.trod enc Tryz.prog W 0 sp hd m 3 [v18] = some y18 := hf 18 (by decide)
  obtain ⟨x18, h18, _, w18⟩ := DataW.trod_int Tryz.underlying3 g18
  injection h18 with h18; subst h18
  have g19 : DataW.trod enc Tryz.prog W 0 sp hd m 3 [v19] = some y19 := hf 19 (by decide)
  obtain ⟨x19, h19, _, w19⟩ := DataW.trod_int Tryz.underlying3 g19
  injection h19 with h19; subst h19
  have g20 : DataW.trod enc Tryz.prog W 0 sp hd m 3 [v20] = some y20 := hf 20 (by decide)
  obtain ⟨x20, h20, _, w20⟩ := DataW.trod_int Tryz.underlying3 g20
  injection h20 with h20; subst h20
  have g21 : DataW.trod enc Tryz.prog W 0 sp hd m 3 [v21] = some y21 := hf 21 (by decide)
  obtain ⟨x21, h21, _, w21⟩ := DataW.trod_int Tryz.underlying3 g21
  injection h21 with h21; subst h21
  have g22 : DataW.trod enc Tryz.prog W 0 sp hd m 3 [v22] = some y22 := hf 22 (by decide)
  obtain ⟨x22, h22, _, w22⟩ := DataW.trod_int Tryz.underlying3 g22
  injection h22 with h22; subst h22
  have g23 : DataW.trod enc Tryz.prog W 0 sp hd m 3 [v23] = some y23 := hf 23 (by decide)
  obtain ⟨x23, h23, _, w23⟩ := DataW.trod_int Tryz.underlying3 g23
  injection h23 with h23; subst h23
  exact ⟨fun k => [x0, x1, x2, x3, x4, x5, x6, x7, x8, x9, x10, x11, x12, x13, x14, x15, x16, x17, x18, x19, x20, x21, x22, x23].getD k.val 0, rfl, trivial⟩
theorem opn110 : Opn Tryz.prog 110 slotE (fun x => (((Lit.int .i64 x.1).wf = true) ∧ (True))) := fun H enc W sp hd n cs x h => by
  obtain ⟨xs, m, _, _, hl, hxl, hf⟩ := DataW.trod_struct Tryz.underlying110 h
  rw [show Tryz.prog.cellsOf 110 = 2 by kernel_rfl] at hl
  replace hxl : xs.length = 2 := hxl
  obtain ⟨v0, v1, rfl⟩ := lenN2 hl
  obtain ⟨y0, y1, rfl⟩ := lenN2 hxl
  have g0 : DataW.trod enc Tryz.prog W 0 sp hd m 3 (([v0, v1].drop 0).take (Tryz.prog.cellsOf 3)) = some y0 := hf 0 _ rfl
  rw [show Tryz.prog.cellsOf 3 = 1 by kernel_rfl] at g0
  simp only [List.drop, List.take] at g0
  have g1 : DataW.trod enc Tryz.prog W 0 sp hd m 4 (([v0, v1].drop 1).take (Tryz.prog.cellsOf 4)) = some y1 := hf 1 _ rfl
  rw [show Tryz.prog.cellsOf 4 = 1 by kernel_rfl] at g1
  simp only [List.drop, List.take] at g1
  obtain ⟨x0, h0, _, w0⟩ := DataW.trod_int Tryz.underlying3 g0
  injection h0 with h0; subst h0
  obtain ⟨x1, h1, _⟩ := DataW.trod_bool Tryz.underlying4 g1
  injection h1 with h1; subst h1
  exact ⟨(x0, x1), rfl, ⟨w0, trivial⟩⟩
theorem opn27 : Opn Tryz.prog 27 allocE (fun x => (((Lit.int .i64 x.1).wf = true) ∧ (∀ z ∈ x.2.1, (((Lit.int .i64 z.1).wf = true) ∧ (True))) ∧ (∀ z ∈ x.2.2, (Lit.int .i64 z).wf = true))) := fun H enc W sp hd n cs x h => by
  obtain ⟨xs, m, _, _, hl, hxl, hf⟩ := DataW.trod_struct Tryz.underlying27 h
  rw [show Tryz.prog.cellsOf 27 = 3 by kernel_rfl] at hl
  replace hxl : xs.length = 3 := hxl
  obtain ⟨v0, v1, v2, rfl⟩ := lenN3 hl
  obtain ⟨y0, y1, y2, rfl⟩ := lenN3 hxl
  have g0 : DataW.trod enc Tryz.prog W 0 sp hd m 3 (([v0, v1, v2].drop 0).take (Tryz.prog.cellsOf 3)) = some y0 := hf 0 _ rfl
  rw [show Tryz.prog.cellsOf 3 = 1 by kernel_rfl] at g0
  simp only [List.drop, List.take] at g0
  have g1 : DataW.trod enc Tryz.prog W 0 sp hd m 24 (([v0, v1, v2].drop 1).take (Tryz.prog.cellsOf 24)) = some y1 := hf 1 _ rfl
  rw [show Tryz.prog.cellsOf 24 = 1 by kernel_rfl] at g1
  simp only [List.drop, List.take] at g1
  have g2 : DataW.trod enc Tryz.prog W 0 sp hd m 25 (([v0, v1, v2].drop 2).take (Tryz.prog.cellsOf 25)) = some y2 := hf 2 _ rfl
  rw [show Tryz.prog.cellsOf 25 = 1 by kernel_rfl] at g2
  simp only [List.drop, List.take] at g2
  obtain ⟨x0, h0, _, w0⟩ := DataW.trod_int Tryz.underlying3 g0
  injection h0 with h0; subst h0
  obtain ⟨x1, ⟨u1, h1, r1⟩, w1⟩ := (Opn.slice Tryz.underlying24 (by kernel_rfl) opn110 (by decide)) H enc W sp hd _ _ _ g1
  injection h1 with h1; subst h1
  obtain ⟨x2, ⟨u2, h2, r2⟩, w2⟩ := (Opn.slice Tryz.underlying25 (by kernel_rfl) (Opn.int Tryz.underlying3) (by decide)) H enc W sp hd _ _ _ g2
  injection h2 with h2; subst h2
  exact ⟨(x0, x1, x2), ⟨_, _, rfl, r1, r2⟩, ⟨w0, w1, w2⟩⟩
theorem opn51 : Opn Tryz.prog 51 traitsE (fun x => ((True) ∧ (True) ∧ ((Lit.int .i64 x.2.2.1).wf = true) ∧ ((Lit.int .i64 x.2.2.2.1).wf = true) ∧ ((Lit.int .i64 x.2.2.2.2).wf = true))) := fun H enc W sp hd n cs x h => by
  obtain ⟨xs, m, _, _, hl, hxl, hf⟩ := DataW.trod_struct Tryz.underlying51 h
  rw [show Tryz.prog.cellsOf 51 = 5 by kernel_rfl] at hl
  replace hxl : xs.length = 5 := hxl
  obtain ⟨v0, v1, v2, v3, v4, rfl⟩ := lenN5 hl
  obtain ⟨y0, y1, y2, y3, y4, rfl⟩ := lenN5 hxl
  have g0 : DataW.trod enc Tryz.prog W 0 sp hd m 4 (([v0, v1, v2, v3, v4].drop 0).take (Tryz.prog.cellsOf 4)) = some y0 := hf 0 _ rfl
  rw [show Tryz.prog.cellsOf 4 = 1 by kernel_rfl] at g0
  simp only [List.drop, List.take] at g0
  have g1 : DataW.trod enc Tryz.prog W 0 sp hd m 4 (([v0, v1, v2, v3, v4].drop 1).take (Tryz.prog.cellsOf 4)) = some y1 := hf 1 _ rfl
  rw [show Tryz.prog.cellsOf 4 = 1 by kernel_rfl] at g1
  simp only [List.drop, List.take] at g1
  have g2 : DataW.trod enc Tryz.prog W 0 sp hd m 3 (([v0, v1, v2, v3, v4].drop 2).take (Tryz.prog.cellsOf 3)) = some y2 := hf 2 _ rfl
  rw [show Tryz.prog.cellsOf 3 = 1 by kernel_rfl] at g2
  simp only [List.drop, List.take] at g2
  have g3 : DataW.trod enc Tryz.prog W 0 sp hd m 3 (([v0, v1, v2, v3, v4].drop 3).take (Tryz.prog.cellsOf 3)) = some y3 := hf 3 _ rfl
  rw [show Tryz.prog.cellsOf 3 = 1 by kernel_rfl] at g3
  simp only [List.drop, List.take] at g3
  have g4 : DataW.trod enc Tryz.prog W 0 sp hd m 3 (([v0, v1, v2, v3, v4].drop 4).take (Tryz.prog.cellsOf 3)) = some y4 := hf 4 _ rfl
  rw [show Tryz.prog.cellsOf 3 = 1 by kernel_rfl] at g4
  simp only [List.drop, List.take] at g4
  obtain ⟨x0, h0, _⟩ := DataW.trod_bool Tryz.underlying4 g0
  injection h0 with h0; subst h0
  obtain ⟨x1, h1, _⟩ := DataW.trod_bool Tryz.underlying4 g1
  injection h1 with h1; subst h1
  obtain ⟨x2, h2, _, w2⟩ := DataW.trod_int Tryz.underlying3 g2
  injection h2 with h2; subst h2
  obtain ⟨x3, h3, _, w3⟩ := DataW.trod_int Tryz.underlying3 g3
  injection h3 with h3; subst h3
  obtain ⟨x4, h4, _, w4⟩ := DataW.trod_int Tryz.underlying3 g4
  injection h4 with h4; subst h4
  exact ⟨(x0, x1, x2, x3, x4), rfl, ⟨trivial, trivial, w2, w3, w4⟩⟩
theorem opn55 : Opn Tryz.prog 55 relationE (fun x => (((Lit.int .i64 x.1).wf = true) ∧ (((True) ∧ (True) ∧ ((Lit.int .i64 x.2.2.2.1).wf = true) ∧ ((Lit.int .i64 x.2.2.2.2.1).wf = true) ∧ ((Lit.int .i64 x.2.2.2.2.2).wf = true))))) := fun H enc W sp hd n cs x h => by
  obtain ⟨xs, m, _, _, hl, hxl, hf⟩ := DataW.trod_struct Tryz.underlying55 h
  rw [show Tryz.prog.cellsOf 55 = 6 by kernel_rfl] at hl
  replace hxl : xs.length = 2 := hxl
  obtain ⟨v0, v1, v2, v3, v4, v5, rfl⟩ := lenN6 hl
  obtain ⟨y0, y1, rfl⟩ := lenN2 hxl
  have g0 : DataW.trod enc Tryz.prog W 0 sp hd m 3 (([v0, v1, v2, v3, v4, v5].drop 0).take (Tryz.prog.cellsOf 3)) = some y0 := hf 0 _ rfl
  rw [show Tryz.prog.cellsOf 3 = 1 by kernel_rfl] at g0
  simp only [List.drop, List.take] at g0
  have g1 : DataW.trod enc Tryz.prog W 0 sp hd m 51 (([v0, v1, v2, v3, v4, v5].drop 1).take (Tryz.prog.cellsOf 51)) = some y1 := hf 1 _ rfl
  rw [show Tryz.prog.cellsOf 51 = 5 by kernel_rfl] at g1
  simp only [List.drop, List.take] at g1
  obtain ⟨x0, h0, _, w0⟩ := DataW.trod_int Tryz.underlying3 g0
  injection h0 with h0; subst h0
  obtain ⟨x1, h1, w1⟩ := opn51 H enc W sp hd _ _ _ g1
  obtain ⟨rfl, rfl, rfl, rfl, rfl⟩ : v1 = .bool x1.1 ∧ v2 = .bool x1.2.1 ∧ v3 = .int .i64 x1.2.2.1 ∧ v4 = .int .i64 x1.2.2.2.1 ∧ v5 = .int .i64 x1.2.2.2.2 := by have h := h1; simp only [traitsE] at h; simpa using h
  exact ⟨(x0, x1), rfl, ⟨w0, w1⟩⟩
theorem opn47 : Opn Tryz.prog 47 rowE (fun x => (((Lit.int .i64 x.1).wf = true) ∧ (∀ z ∈ x.2.1, (Lit.int .u64 z).wf = true) ∧ (∀ z ∈ x.2.2, ∀ z1 ∈ z, (Lit.int .u64 z1).wf = true))) := fun H enc W sp hd n cs x h => by
  obtain ⟨xs, m, _, _, hl, hxl, hf⟩ := DataW.trod_struct Tryz.underlying47 h
  rw [show Tryz.prog.cellsOf 47 = 3 by kernel_rfl] at hl
  replace hxl : xs.length = 3 := hxl
  obtain ⟨v0, v1, v2, rfl⟩ := lenN3 hl
  obtain ⟨y0, y1, y2, rfl⟩ := lenN3 hxl
  have g0 : DataW.trod enc Tryz.prog W 0 sp hd m 3 (([v0, v1, v2].drop 0).take (Tryz.prog.cellsOf 3)) = some y0 := hf 0 _ rfl
  rw [show Tryz.prog.cellsOf 3 = 1 by kernel_rfl] at g0
  simp only [List.drop, List.take] at g0
  have g1 : DataW.trod enc Tryz.prog W 0 sp hd m 44 (([v0, v1, v2].drop 1).take (Tryz.prog.cellsOf 44)) = some y1 := hf 1 _ rfl
  rw [show Tryz.prog.cellsOf 44 = 1 by kernel_rfl] at g1
  simp only [List.drop, List.take] at g1
  have g2 : DataW.trod enc Tryz.prog W 0 sp hd m 45 (([v0, v1, v2].drop 2).take (Tryz.prog.cellsOf 45)) = some y2 := hf 2 _ rfl
  rw [show Tryz.prog.cellsOf 45 = 1 by kernel_rfl] at g2
  simp only [List.drop, List.take] at g2
  obtain ⟨x0, h0, _, w0⟩ := DataW.trod_int Tryz.underlying3 g0
  injection h0 with h0; subst h0
  obtain ⟨x1, ⟨u1, h1, r1⟩, w1⟩ := (Opn.slice Tryz.underlying44 (by kernel_rfl) (Opn.int Tryz.underlying39) (by decide)) H enc W sp hd _ _ _ g1
  injection h1 with h1; subst h1
  obtain ⟨x2, ⟨u2, h2, r2⟩, w2⟩ := (Opn.slice Tryz.underlying45 (by kernel_rfl) (Opn.slice Tryz.underlying64 (by kernel_rfl) (Opn.int Tryz.underlying38) (by decide)) (by decide)) H enc W sp hd _ _ _ g2
  injection h2 with h2; subst h2
  exact ⟨(x0, x1, x2), ⟨_, _, rfl, r1, r2⟩, ⟨w0, w1, w2⟩⟩
theorem opn31 : Opn Tryz.prog 31 stateE (fun x => ((True) ∧ ((((Lit.int .i64 x.2.1.1).wf = true) ∧ (∀ z ∈ x.2.1.2.1, (((Lit.int .i64 z.1).wf = true) ∧ (True))) ∧ (∀ z ∈ x.2.1.2.2, (Lit.int .i64 z).wf = true))) ∧ (∀ z ∈ x.2.2.1, (((Lit.int .i64 z.1).wf = true) ∧ (((True) ∧ (True) ∧ ((Lit.int .i64 z.2.2.2.1).wf = true) ∧ ((Lit.int .i64 z.2.2.2.2.1).wf = true) ∧ ((Lit.int .i64 z.2.2.2.2.2).wf = true))))) ∧ (∀ z ∈ x.2.2.2, (((Lit.int .i64 z.1).wf = true) ∧ (∀ z1 ∈ z.2.1, (Lit.int .u64 z1).wf = true) ∧ (∀ z1 ∈ z.2.2, ∀ z2 ∈ z1, (Lit.int .u64 z2).wf = true))))) := fun H enc W sp hd n cs x h => by
  obtain ⟨xs, m, _, _, hl, hxl, hf⟩ := DataW.trod_struct Tryz.underlying31 h
  rw [show Tryz.prog.cellsOf 31 = 29 by kernel_rfl] at hl
  replace hxl : xs.length = 4 := hxl
  obtain ⟨v0, v1, v2, v3, v4, v5, v6, v7, v8, v9, v10, v11, v12, v13, v14, v15, v16, v17, v18, v19, v20, v21, v22, v23, v24, v25, v26, v27, v28, rfl⟩ := lenN29 hl
  obtain ⟨y0, y1, y2, y3, rfl⟩ := lenN4 hxl
  have g0 : DataW.trod enc Tryz.prog W 0 sp hd m 23 (([v0, v1, v2, v3, v4, v5, v6, v7, v8, v9, v10, v11, v12, v13, v14, v15, v16, v17, v18, v19, v20, v21, v22, v23, v24, v25, v26, v27, v28].drop 0).take (Tryz.prog.cellsOf 23)) = some y0 := hf 0 _ rfl
  rw [show Tryz.prog.cellsOf 23 = 24 by kernel_rfl] at g0
  simp only [List.drop, List.take] at g0
  have g1 : DataW.trod enc Tryz.prog W 0 sp hd m 27 (([v0, v1, v2, v3, v4, v5, v6, v7, v8, v9, v10, v11, v12, v13, v14, v15, v16, v17, v18, v19, v20, v21, v22, v23, v24, v25, v26, v27, v28].drop 24).take (Tryz.prog.cellsOf 27)) = some y1 := hf 1 _ rfl
  rw [show Tryz.prog.cellsOf 27 = 3 by kernel_rfl] at g1
  simp only [List.drop, List.take] at g1
  have g2 : DataW.trod enc Tryz.prog W 0 sp hd m 28 (([v0, v1, v2, v3, v4, v5, v6, v7, v8, v9, v10, v11, v12, v13, v14, v15, v16, v17, v18, v19, v20, v21, v22, v23, v24, v25, v26, v27, v28].drop 27).take (Tryz.prog.cellsOf 28)) = some y2 := hf 2 _ rfl
  rw [show Tryz.prog.cellsOf 28 = 1 by kernel_rfl] at g2
  simp only [List.drop, List.take] at g2
  have g3 : DataW.trod enc Tryz.prog W 0 sp hd m 29 (([v0, v1, v2, v3, v4, v5, v6, v7, v8, v9, v10, v11, v12, v13, v14, v15, v16, v17, v18, v19, v20, v21, v22, v23, v24, v25, v26, v27, v28].drop 28).take (Tryz.prog.cellsOf 29)) = some y3 := hf 3 _ rfl
  rw [show Tryz.prog.cellsOf 29 = 1 by kernel_rfl] at g3
  simp only [List.drop, List.take] at g3
  obtain ⟨x0, h0, w0⟩ := opn23 H enc W sp hd _ _ _ g0
  have e0_ : [v0, v1, v2, v3, v4, v5, v6, v7, v8, v9, v10, v11, v12, v13, v14, v15, v16, v17, v18, v19, v20, v21, v22, v23] = [.int .i64 (x0 0), .int .i64 (x0 1), .int .i64 (x0 2), .int .i64 (x0 3), .int .i64 (x0 4), .int .i64 (x0 5), .int .i64 (x0 6), .int .i64 (x0 7), .int .i64 (x0 8), .int .i64 (x0 9), .int .i64 (x0 10), .int .i64 (x0 11), .int .i64 (x0 12), .int .i64 (x0 13), .int .i64 (x0 14), .int .i64 (x0 15), .int .i64 (x0 16), .int .i64 (x0 17), .int .i64 (x0 18), .int .i64 (x0 19), .int .i64 (x0 20), .int .i64 (x0 21), .int .i64 (x0 22), .int .i64 (x0 23)] := h0
  simp only [List.cons.injEq, and_true] at e0_
  obtain ⟨rfl, rfl, rfl, rfl, rfl, rfl, rfl, rfl, rfl, rfl, rfl, rfl, rfl, rfl, rfl, rfl, rfl, rfl, rfl, rfl, rfl, rfl, rfl, rfl⟩ := e0_
  obtain ⟨x1, h1, w1⟩ := opn27 H enc W sp hd _ _ _ g1
  obtain ⟨u1_1, u1_2, e1_, r1_1, r1_2⟩ := h1
  simp only [List.cons.injEq, and_true] at e1_
  obtain ⟨rfl, rfl, rfl⟩ := e1_
  obtain ⟨x2, ⟨u2, h2, r2⟩, w2⟩ := (Opn.slice Tryz.underlying28 (by kernel_rfl) opn55 (by decide)) H enc W sp hd _ _ _ g2
  injection h2 with h2; subst h2
  obtain ⟨x3, ⟨u3, h3, r3⟩, w3⟩ := (Opn.slice Tryz.underlying29 (by kernel_rfl) opn47 (by decide)) H enc W sp hd _ _ _ g3
  injection h3 with h3; subst h3
  exact ⟨(x0, x1, x2, x3), ⟨_, _, _, _, rfl, r1_1, r1_2, r2, r3⟩, ⟨w0, w1, w2, w3⟩⟩
end Go.SX
namespace Go.Proofs.YtflpmgehkoachaaGreatDoor
open Go.ChangeShapes Go.WideShapes Go.ChangeAt Go.RowKit Go.SX
theorem stateSound_own : ownKnob Tryz.prog.godebug = none := by kernel_rfl
theorem stateSound_laid : laidOutB Tryz.prog = true := by kernel_rfl
theorem stateSound_met (os : Os) (args : Array Value) : laidMetH Tryz.prog Rows.stateSoundRow.laid ((World.doorLaid Tryz.prog 400 os).forCall (fun _ _ => 0) ⟨#[], args, []⟩).memory :=
  laidMetH_of_parts3 (fuel := 12) (laidMet_of_run' 12 (by kernel_rfl) (by kernel_rfl)) (by kernel_rfl) (by kernel_rfl)
theorem stateSound_dat1 {W : World} {H : Type} {enc : TypeId × Value → H} {sp : Nat → Bool} {hh : Bool} {n : Nat} {cs : List Value} {x : DataW H × List MemPlace} (h : DataW.trod enc Tryz.prog W 0 sp hh n 110 cs = some x) (hd : x.1 = .agg [.lit (.int .i64 0), .lit (.bool true)]) : cs = [.int .i64 0, .bool true] := by
  obtain ⟨xs, m, _, hx1, hl, hxl, hf⟩ := DataW.trod_struct Tryz.underlying110 h
  rw [show Tryz.prog.cellsOf 110 = 2 by kernel_rfl] at hl
  replace hxl : xs.length = 2 := hxl
  obtain ⟨v0, v1, rfl⟩ := lenN2 hl
  obtain ⟨y0, y1, rfl⟩ := lenN2 hxl
  subst hx1
  simp only [List.map_cons, List.map_nil, DataW.agg.injEq, List.cons.injEq, and_true] at hd
  obtain ⟨e0, e1⟩ := hd
  have g0 : DataW.trod enc Tryz.prog W 0 sp hh m 3 (([v0, v1].drop 0).take (Tryz.prog.cellsOf 3)) = some y0 := hf 0 _ rfl
  rw [show Tryz.prog.cellsOf 3 = 1 by kernel_rfl] at g0
  have G0 : DataW.trod enc Tryz.prog W 0 sp hh m 3 [v0] = some y0 := g0
  clear g0
  have g1 : DataW.trod enc Tryz.prog W 0 sp hh m 4 (([v0, v1].drop 1).take (Tryz.prog.cellsOf 4)) = some y1 := hf 1 _ rfl
  rw [show Tryz.prog.cellsOf 4 = 1 by kernel_rfl] at g1
  have G1 : DataW.trod enc Tryz.prog W 0 sp hh m 4 [v1] = some y1 := g1
  clear g1
  clear hf h
  obtain ⟨a0, h0, k0, _⟩ := DataW.trod_int Tryz.underlying3 G0
  subst k0
  injection h0 with h0; subst h0
  simp only [DataW.lit.injEq, Lit.int.injEq, Lit.bool.injEq, true_and] at e0; subst e0
  obtain ⟨a1, h1, k1⟩ := DataW.trod_bool Tryz.underlying4 G1
  subst k1
  injection h1 with h1; subst h1
  simp only [DataW.lit.injEq, Lit.int.injEq, Lit.bool.injEq, true_and] at e1; subst e1
  rfl
theorem stateSound_glob1 {W : World} (h : laidMetH Tryz.prog Rows.stateSoundRow.laid W) : ∃ t, heapOf W 1 = some (.cells #[.int .i64 0, .bool true] t) := by
  rw [MakeChecks.laidMetH_plain _ _ _ (by kernel_rfl)] at h
  obtain ⟨ps, hv, _, hrow⟩ := h
  obtain ⟨g0, t0, cs0, f0, p0, hg0, ht0, hv0, hd0, hps⟩ := laid_var hv (n := "windrose/alloc.always") (d := .agg [.lit (.int .i64 0), .lit (.bool true)]) (show _ from (.head _))
  obtain rfl := Option.some.inj ((show Tryz.prog.globalNamed "windrose/alloc.always" = some 1 by kernel_rfl).symm.trans hg0)
  obtain rfl := Option.some.inj ((show (Tryz.prog.globals[1]?).map (·.type) = some 110 by kernel_rfl).symm.trans ht0)
  have hl := stateSound_dat1 hd0 rfl
  have hcs : cs0 = #[.int .i64 0, .bool true] := Array.toList_inj.1 hl
  subst hcs
  obtain ⟨⟨c, t, hh⟩, _⟩ := hrow 1 0 (hps _ (by simp [MemPlace.row]))
  have hv := hv0
  simp only [World.var?, hg0, Option.bind_some, hh] at hv
  injection hv with hv
  subst hv
  exact ⟨t, hh⟩
theorem stateSound_dat0_0_1 {W : World} {H : Type} {enc : TypeId × Value → H} {sp : Nat → Bool} {hh : Bool} {n : Nat} {cs : List Value} {x : DataW H × List MemPlace} (h : DataW.trod enc Tryz.prog W 0 sp hh n 51 cs = some x) (hd : x.1 = .agg [.lit (.bool true), .lit (.bool true), .lit (.int .i64 0), .lit (.int .i64 1), .lit (.int .i64 2)]) : cs = [.bool true, .bool true, .int .i64 0, .int .i64 1, .int .i64 2] := by
  obtain ⟨xs, m, _, hx1, hl, hxl, hf⟩ := DataW.trod_struct Tryz.underlying51 h
  rw [show Tryz.prog.cellsOf 51 = 5 by kernel_rfl] at hl
  replace hxl : xs.length = 5 := hxl
  obtain ⟨v0, v1, v2, v3, v4, rfl⟩ := lenN5 hl
  obtain ⟨y0, y1, y2, y3, y4, rfl⟩ := lenN5 hxl
  subst hx1
  simp only [List.map_cons, List.map_nil, DataW.agg.injEq, List.cons.injEq, and_true] at hd
  obtain ⟨e0, e1, e2, e3, e4⟩ := hd
  have g0 : DataW.trod enc Tryz.prog W 0 sp hh m 4 (([v0, v1, v2, v3, v4].drop 0).take (Tryz.prog.cellsOf 4)) = some y0 := hf 0 _ rfl
  rw [show Tryz.prog.cellsOf 4 = 1 by kernel_rfl] at g0
  have G0 : DataW.trod enc Tryz.prog W 0 sp hh m 4 [v0] = some y0 := g0
  clear g0
  have g1 : DataW.trod enc Tryz.prog W 0 sp hh m 4 (([v0, v1, v2, v3, v4].drop 1).take (Tryz.prog.cellsOf 4)) = some y1 := hf 1 _ rfl
  rw [show Tryz.prog.cellsOf 4 = 1 by kernel_rfl] at g1
  have G1 : DataW.trod enc Tryz.prog W 0 sp hh m 4 [v1] = some y1 := g1
  clear g1
  have g2 : DataW.trod enc Tryz.prog W 0 sp hh m 3 (([v0, v1, v2, v3, v4].drop 2).take (Tryz.prog.cellsOf 3)) = some y2 := hf 2 _ rfl
  rw [show Tryz.prog.cellsOf 3 = 1 by kernel_rfl] at g2
  have G2 : DataW.trod enc Tryz.prog W 0 sp hh m 3 [v2] = some y2 := g2
  clear g2
  have g3 : DataW.trod enc Tryz.prog W 0 sp hh m 3 (([v0, v1, v2, v3, v4].drop 3).take (Tryz.prog.cellsOf 3)) = some y3 := hf 3 _ rfl
  rw [show Tryz.prog.cellsOf 3 = 1 by kernel_rfl] at g3
  have G3 : DataW.trod enc Tryz.prog W 0 sp hh m 3 [v3] = some y3 := g3
  clear g3
  have g4 : DataW.trod enc Tryz.prog W 0 sp hh m 3 (([v0, v1, v2, v3, v4].drop 4).take (Tryz.prog.cellsOf 3)) = some y4 := hf 4 _ rfl
  rw [show Tryz.prog.cellsOf 3 = 1 by kernel_rfl] at g4
  have G4 : DataW.trod enc Tryz.prog W 0 sp hh m 3 [v4] = some y4 := g4
  clear g4
  clear hf h
  obtain ⟨a0, h0, k0⟩ := DataW.trod_bool Tryz.underlying4 G0
  subst k0
  injection h0 with h0; subst h0
  simp only [DataW.lit.injEq, Lit.int.injEq, Lit.bool.injEq, true_and] at e0; subst e0
  obtain ⟨a1, h1, k1⟩ := DataW.trod_bool Tryz.underlying4 G1
  subst k1
  injection h1 with h1; subst h1
  simp only [DataW.lit.injEq, Lit.int.injEq, Lit.bool.injEq, true_and] at e1; subst e1
  obtain ⟨a2, h2, k2, _⟩ := DataW.trod_int Tryz.underlying3 G2
  subst k2
  injection h2 with h2; subst h2
  simp only [DataW.lit.injEq, Lit.int.injEq, Lit.bool.injEq, true_and] at e2; subst e2
  obtain ⟨a3, h3, k3, _⟩ := DataW.trod_int Tryz.underlying3 G3
  subst k3
  injection h3 with h3; subst h3
  simp only [DataW.lit.injEq, Lit.int.injEq, Lit.bool.injEq, true_and] at e3; subst e3
  obtain ⟨a4, h4, k4, _⟩ := DataW.trod_int Tryz.underlying3 G4
  subst k4
  injection h4 with h4; subst h4
  simp only [DataW.lit.injEq, Lit.int.injEq, Lit.bool.injEq, true_and] at e4; subst e4
  rfl
theorem stateSound_dat0_0 {W : World} {H : Type} {enc : TypeId × Value → H} {sp : Nat → Bool} {hh : Bool} {n : Nat} {cs : List Value} {x : DataW H × List MemPlace} (h : DataW.trod enc Tryz.prog W 0 sp hh n 55 cs = some x) (hd : x.1 = .agg [.lit (.int .i64 1), .agg [.lit (.bool true), .lit (.bool true), .lit (.int .i64 0), .lit (.int .i64 1), .lit (.int .i64 2)]]) : cs = [.int .i64 1, .bool true, .bool true, .int .i64 0, .int .i64 1, .int .i64 2] := by
  obtain ⟨xs, m, _, hx1, hl, hxl, hf⟩ := DataW.trod_struct Tryz.underlying55 h
  rw [show Tryz.prog.cellsOf 55 = 6 by kernel_rfl] at hl
  replace hxl : xs.length = 2 := hxl
  obtain ⟨v0, v1, v2, v3, v4, v5, rfl⟩ := lenN6 hl
  obtain ⟨y0, y1, rfl⟩ := lenN2 hxl
  subst hx1
  simp only [List.map_cons, List.map_nil, DataW.agg.injEq, List.cons.injEq, and_true] at hd
  obtain ⟨e0, e1⟩ := hd
  have g0 : DataW.trod enc Tryz.prog W 0 sp hh m 3 (([v0, v1, v2, v3, v4, v5].drop 0).take (Tryz.prog.cellsOf 3)) = some y0 := hf 0 _ rfl
  rw [show Tryz.prog.cellsOf 3 = 1 by kernel_rfl] at g0
  have G0 : DataW.trod enc Tryz.prog W 0 sp hh m 3 [v0] = some y0 := g0
  clear g0
  have g1 : DataW.trod enc Tryz.prog W 0 sp hh m 51 (([v0, v1, v2, v3, v4, v5].drop 1).take (Tryz.prog.cellsOf 51)) = some y1 := hf 1 _ rfl
  rw [show Tryz.prog.cellsOf 51 = 5 by kernel_rfl] at g1
  have G1 : DataW.trod enc Tryz.prog W 0 sp hh m 51 [v1, v2, v3, v4, v5] = some y1 := g1
  clear g1
  clear hf h
  obtain ⟨a0, h0, k0, _⟩ := DataW.trod_int Tryz.underlying3 G0
  subst k0
  injection h0 with h0; subst h0
  simp only [DataW.lit.injEq, Lit.int.injEq, Lit.bool.injEq, true_and] at e0; subst e0
  have q1 := stateSound_dat0_0_1 G1 e1
  simp only [List.cons.injEq, and_true] at q1
  obtain ⟨rfl, rfl, rfl, rfl, rfl⟩ := q1
  rfl
theorem stateSound_dat0_1_1 {W : World} {H : Type} {enc : TypeId × Value → H} {sp : Nat → Bool} {hh : Bool} {n : Nat} {cs : List Value} {x : DataW H × List MemPlace} (h : DataW.trod enc Tryz.prog W 0 sp hh n 51 cs = some x) (hd : x.1 = .agg [.lit (.bool true), .lit (.bool false), .lit (.int .i64 0), .lit (.int .i64 0), .lit (.int .i64 2)]) : cs = [.bool true, .bool false, .int .i64 0, .int .i64 0, .int .i64 2] := by
  obtain ⟨xs, m, _, hx1, hl, hxl, hf⟩ := DataW.trod_struct Tryz.underlying51 h
  rw [show Tryz.prog.cellsOf 51 = 5 by kernel_rfl] at hl
  replace hxl : xs.length = 5 := hxl
  obtain ⟨v0, v1, v2, v3, v4, rfl⟩ := lenN5 hl
  obtain ⟨y0, y1, y2, y3, y4, rfl⟩ := lenN5 hxl
  subst hx1
  simp only [List.map_cons, List.map_nil, DataW.agg.injEq, List.cons.injEq, and_true] at hd
  obtain ⟨e0, e1, e2, e3, e4⟩ := hd
  have g0 : DataW.trod enc Tryz.prog W 0 sp hh m 4 (([v0, v1, v2, v3, v4].drop 0).take (Tryz.prog.cellsOf 4)) = some y0 := hf 0 _ rfl
  rw [show Tryz.prog.cellsOf 4 = 1 by kernel_rfl] at g0
  have G0 : DataW.trod enc Tryz.prog W 0 sp hh m 4 [v0] = some y0 := g0
  clear g0
  have g1 : DataW.trod enc Tryz.prog W 0 sp hh m 4 (([v0, v1, v2, v3, v4].drop 1).take (Tryz.prog.cellsOf 4)) = some y1 := hf 1 _ rfl
  rw [show Tryz.prog.cellsOf 4 = 1 by kernel_rfl] at g1
  have G1 : DataW.trod enc Tryz.prog W 0 sp hh m 4 [v1] = some y1 := g1
  clear g1
  have g2 : DataW.trod enc Tryz.prog W 0 sp hh m 3 (([v0, v1, v2, v3, v4].drop 2).take (Tryz.prog.cellsOf 3)) = some y2 := hf 2 _ rfl
  rw [show Tryz.prog.cellsOf 3 = 1 by kernel_rfl] at g2
  have G2 : DataW.trod enc Tryz.prog W 0 sp hh m 3 [v2] = some y2 := g2
  clear g2
  have g3 : DataW.trod enc Tryz.prog W 0 sp hh m 3 (([v0, v1, v2, v3, v4].drop 3).take (Tryz.prog.cellsOf 3)) = some y3 := hf 3 _ rfl
  rw [show Tryz.prog.cellsOf 3 = 1 by kernel_rfl] at g3
  have G3 : DataW.trod enc Tryz.prog W 0 sp hh m 3 [v3] = some y3 := g3
  clear g3
  have g4 : DataW.trod enc Tryz.prog W 0 sp hh m 3 (([v0, v1, v2, v3, v4].drop 4).take (Tryz.prog.cellsOf 3)) = some y4 := hf 4 _ rfl
  rw [show Tryz.prog.cellsOf 3 = 1 by kernel_rfl] at g4
  have G4 : DataW.trod enc Tryz.prog W 0 sp hh m 3 [v4] = some y4 := g4
  clear g4
  clear hf h
  obtain ⟨a0, h0, k0⟩ := DataW.trod_bool Tryz.underlying4 G0
  subst k0
  injection h0 with h0; subst h0
  simp only [DataW.lit.injEq, Lit.int.injEq, Lit.bool.injEq, true_and] at e0; subst e0
  obtain ⟨a1, h1, k1⟩ := DataW.trod_bool Tryz.underlying4 G1
  subst k1
  injection h1 with h1; subst h1
  simp only [DataW.lit.injEq, Lit.int.injEq, Lit.bool.injEq, true_and] at e1; subst e1
  obtain ⟨a2, h2, k2, _⟩ := DataW.trod_int Tryz.underlying3 G2
  subst k2
  injection h2 with h2; subst h2
  simp only [DataW.lit.injEq, Lit.int.injEq, Lit.bool.injEq, true_and] at e2; subst e2
  obtain ⟨a3, h3, k3, _⟩ := DataW.trod_int Tryz.underlying3 G3
  subst k3
  injection h3 with h3; subst h3
  simp only [DataW.lit.injEq, Lit.int.injEq, Lit.bool.injEq, true_and] at e3; subst e3
  obtain ⟨a4, h4, k4, _⟩ := DataW.trod_int Tryz.underlying3 G4
  subst k4
  injection h4 with h4; subst h4
  simp only [DataW.lit.injEq, Lit.int.injEq, Lit.bool.injEq, true_and] at e4; subst e4
  rfl
theorem stateSound_dat0_1 {W : World} {H : Type} {enc : TypeId × Value → H} {sp : Nat → Bool} {hh : Bool} {n : Nat} {cs : List Value} {x : DataW H × List MemPlace} (h : DataW.trod enc Tryz.prog W 0 sp hh n 55 cs = some x) (hd : x.1 = .agg [.lit (.int .i64 2), .agg [.lit (.bool true), .lit (.bool false), .lit (.int .i64 0), .lit (.int .i64 0), .lit (.int .i64 2)]]) : cs = [.int .i64 2, .bool true, .bool false, .int .i64 0, .int .i64 0, .int .i64 2] := by
  obtain ⟨xs, m, _, hx1, hl, hxl, hf⟩ := DataW.trod_struct Tryz.underlying55 h
  rw [show Tryz.prog.cellsOf 55 = 6 by kernel_rfl] at hl
  replace hxl : xs.length = 2 := hxl
  obtain ⟨v0, v1, v2, v3, v4, v5, rfl⟩ := lenN6 hl
  obtain ⟨y0, y1, rfl⟩ := lenN2 hxl
  subst hx1
  simp only [List.map_cons, List.map_nil, DataW.agg.injEq, List.cons.injEq, and_true] at hd
  obtain ⟨e0, e1⟩ := hd
  have g0 : DataW.trod enc Tryz.prog W 0 sp hh m 3 (([v0, v1, v2, v3, v4, v5].drop 0).take (Tryz.prog.cellsOf 3)) = some y0 := hf 0 _ rfl
  rw [show Tryz.prog.cellsOf 3 = 1 by kernel_rfl] at g0
  have G0 : DataW.trod enc Tryz.prog W 0 sp hh m 3 [v0] = some y0 := g0
  clear g0
  have g1 : DataW.trod enc Tryz.prog W 0 sp hh m 51 (([v0, v1, v2, v3, v4, v5].drop 1).take (Tryz.prog.cellsOf 51)) = some y1 := hf 1 _ rfl
  rw [show Tryz.prog.cellsOf 51 = 5 by kernel_rfl] at g1
  have G1 : DataW.trod enc Tryz.prog W 0 sp hh m 51 [v1, v2, v3, v4, v5] = some y1 := g1
  clear g1
  clear hf h
  obtain ⟨a0, h0, k0, _⟩ := DataW.trod_int Tryz.underlying3 G0
  subst k0
  injection h0 with h0; subst h0
  simp only [DataW.lit.injEq, Lit.int.injEq, Lit.bool.injEq, true_and] at e0; subst e0
  have q1 := stateSound_dat0_1_1 G1 e1
  simp only [List.cons.injEq, and_true] at q1
  obtain ⟨rfl, rfl, rfl, rfl, rfl⟩ := q1
  rfl
theorem stateSound_dat0 {W : World} {H : Type} {enc : TypeId × Value → H} {sp : Nat → Bool} {hh : Bool} {n : Nat} {cs : List Value} {x : DataW H × List MemPlace} (h : DataW.trod enc Tryz.prog W 0 sp hh n 185 cs = some x) (hd : x.1 = .agg [.agg [.lit (.int .i64 1), .agg [.lit (.bool true), .lit (.bool true), .lit (.int .i64 0), .lit (.int .i64 1), .lit (.int .i64 2)]], .agg [.lit (.int .i64 2), .agg [.lit (.bool true), .lit (.bool false), .lit (.int .i64 0), .lit (.int .i64 0), .lit (.int .i64 2)]]]) : cs = [.int .i64 1, .bool true, .bool true, .int .i64 0, .int .i64 1, .int .i64 2, .int .i64 2, .bool true, .bool false, .int .i64 0, .int .i64 0, .int .i64 2] := by
  obtain ⟨xs, m, _, hx1, hl, hxl, hf⟩ := DataW.trod_array Tryz.underlying185 h
  rw [show Tryz.prog.cellsOf 185 = 12 by kernel_rfl] at hl
  replace hxl : xs.length = 2 := hxl
  obtain ⟨v0, v1, v2, v3, v4, v5, v6, v7, v8, v9, v10, v11, rfl⟩ := lenN12 hl
  obtain ⟨y0, y1, rfl⟩ := lenN2 hxl
  subst hx1
  simp only [List.map_cons, List.map_nil, DataW.agg.injEq, List.cons.injEq, and_true] at hd
  obtain ⟨e0, e1⟩ := hd
  have hc : Tryz.prog.cellsOf 55 = 6 := by kernel_rfl
  simp only [hc] at hf
  have g0 := hf 0 (by decide)
  have G0 : DataW.trod enc Tryz.prog W 0 sp hh m 55 [v0, v1, v2, v3, v4, v5] = some y0 := g0
  clear g0
  have g1 := hf 1 (by decide)
  have G1 : DataW.trod enc Tryz.prog W 0 sp hh m 55 [v6, v7, v8, v9, v10, v11] = some y1 := g1
  clear g1
  clear hf h
  have q0 := stateSound_dat0_0 G0 e0
  simp only [List.cons.injEq, and_true] at q0
  obtain ⟨rfl, rfl, rfl, rfl, rfl, rfl⟩ := q0
  have q1 := stateSound_dat0_1 G1 e1
  simp only [List.cons.injEq, and_true] at q1
  obtain ⟨rfl, rfl, rfl, rfl, rfl, rfl⟩ := q1
  rfl
theorem stateSound_glob0 {W : World} (h : laidMetH Tryz.prog Rows.stateSoundRow.laid W) : ∃ t, heapOf W 0 = some (.cells #[.int .i64 1, .bool true, .bool true, .int .i64 0, .int .i64 1, .int .i64 2, .int .i64 2, .bool true, .bool false, .int .i64 0, .int .i64 0, .int .i64 2] t) := by
  rw [MakeChecks.laidMetH_plain _ _ _ (by kernel_rfl)] at h
  obtain ⟨ps, hv, _, hrow⟩ := h
  obtain ⟨g0, t0, cs0, f0, p0, hg0, ht0, hv0, hd0, hps⟩ := laid_var hv (n := "windrose/trait.first") (d := .agg [.agg [.lit (.int .i64 1), .agg [.lit (.bool true), .lit (.bool true), .lit (.int .i64 0), .lit (.int .i64 1), .lit (.int .i64 2)]], .agg [.lit (.int .i64 2), .agg [.lit (.bool true), .lit (.bool false), .lit (.int .i64 0), .lit (.int .i64 0), .lit (.int .i64 2)]]]) (show _ from (.tail _ (.head _)))
  obtain rfl := Option.some.inj ((show Tryz.prog.globalNamed "windrose/trait.first" = some 0 by kernel_rfl).symm.trans hg0)
  obtain rfl := Option.some.inj ((show (Tryz.prog.globals[0]?).map (·.type) = some 185 by kernel_rfl).symm.trans ht0)
  have hl := stateSound_dat0 hd0 rfl
  have hcs : cs0 = #[.int .i64 1, .bool true, .bool true, .int .i64 0, .int .i64 1, .int .i64 2, .int .i64 2, .bool true, .bool false, .int .i64 0, .int .i64 0, .int .i64 2] := Array.toList_inj.1 hl
  subst hcs
  obtain ⟨⟨c, t, hh⟩, _⟩ := hrow 0 0 (hps _ (by simp [MemPlace.row]))
  have hv := hv0
  simp only [World.var?, hg0, Option.bind_some, hh] at hv
  injection hv with hv
  subst hv
  exact ⟨t, hh⟩
set_option maxRecDepth 100000 in
theorem stateSound_lifted (os : Os) (started : os.Started) (H : Type) (enc : TypeId × Value → H) :
    ReturnsInHanded {} Tryz.checked os 3 .any (fun w args => (Rows.stateSoundSpec.pre enc Tryz.prog Tryz.f3 [] false w args ∧ laidMetH Tryz.prog Rows.stateSoundRow.laid w) ∧ sizedMet enc Tryz.prog Tryz.f3 (OpenSpec.ofChange Rows.stateSoundSpec) false w args)
      (Rows.stateSoundSpec.post enc Tryz.prog Tryz.f3 false true false false) := by
  refine returnsInHanded_of_change_and (C := Tryz.checked) (X := fun w _ => laidMetH Tryz.prog Rows.stateSoundRow.laid w) (fun _ _ _ hh h => h.of_heap hh) stateSound_own started (by kernel_rfl) Tryz.func3
    (ChangeSpec.witness_shaped (enc := enc) (C := Tryz.checked) (os := os) (X := fun w _ => laidMetH Tryz.prog Rows.stateSoundRow.laid w) false (World.doorLaid Tryz.prog 400 os) #[.agg #[.int .i64 0, .int .i64 0, .int .i64 0, .int .i64 0, .int .i64 0, .int .i64 0, .int .i64 0, .int .i64 0, .int .i64 0, .int .i64 0, .int .i64 0, .int .i64 0, .int .i64 0, .int .i64 0, .int .i64 0, .int .i64 0, .int .i64 0, .int .i64 0, .int .i64 0, .int .i64 0, .int .i64 0, .int .i64 0, .int .i64 0, .int .i64 0, .int .i64 0, .slice none 0 0, .slice none 0 0, .slice none 0 0, .slice none 0 0]] 8 rfl (World.shaped_of_RefB (by kernel_rfl) (by kernel_rfl)) (by kernel_rfl) (by kernel_rfl) (by kernel_rfl) (stateSound_met os _)) ?_
  intro W base args ds gs before hval0 hW _ _ hL _
  have hval : ∀ (j : Nat) t v, Tryz.f3.params[j]? = some t → args[j]? = some v → Value.okWide Tryz.prog W .any base t v := hval0
  have hW' := hW
  obtain ⟨p, q, hA0, hV, rfl, hfz, hnd⟩ := hW
  have hA : DataW.TrodAll enc Tryz.prog W 0 (fun _ => true) true Tryz.f3.params.toList args.toList ds p := hA0
  rw [Tryz.params3] at hA hval
  clear hA0 hval0
  obtain ⟨v0, vs0, d0, ds0, p0, q0, e0, rfl, rfl, h0, r0⟩ := trodAll_cons hA
  obtain ⟨e1, rfl, rfl⟩ := trodAll_nil r0
  subst e1
  obtain rfl : args = #[v0] := by cases args; simp_all
  obtain ⟨rfl, rfl⟩ := trodVars_none hV
  obtain ⟨cs0, x0, rfl, hx0, hw0⟩ := open_agg (.inl ⟨_, Tryz.underlying31⟩) opn31 (hval 0 31 v0 rfl rfl) h0
  obtain ⟨u0_25, u0_26, u0_27, u0_28, e0_, r0_25, r0_26, r0_27, r0_28⟩ := hx0
  obtain rfl : cs0 = #[.int .i64 (x0.1 0), .int .i64 (x0.1 1), .int .i64 (x0.1 2), .int .i64 (x0.1 3), .int .i64 (x0.1 4), .int .i64 (x0.1 5), .int .i64 (x0.1 6), .int .i64 (x0.1 7), .int .i64 (x0.1 8), .int .i64 (x0.1 9), .int .i64 (x0.1 10), .int .i64 (x0.1 11), .int .i64 (x0.1 12), .int .i64 (x0.1 13), .int .i64 (x0.1 14), .int .i64 (x0.1 15), .int .i64 (x0.1 16), .int .i64 (x0.1 17), .int .i64 (x0.1 18), .int .i64 (x0.1 19), .int .i64 (x0.1 20), .int .i64 (x0.1 21), .int .i64 (x0.1 22), .int .i64 (x0.1 23), .int .i64 x0.2.1.1, u0_25, u0_26, u0_27, u0_28] := Array.toList_inj.1 e0_
  have hpar : ∀ t ∈ Tryz.f3.params.toList, Tryz.prog.readableRec t = true ∧ t < Tryz.prog.types.size := by
    intro t ht
    rw [Tryz.params3] at ht
    simp only [List.mem_cons, List.not_mem_nil, or_false] at ht
    subst ht
    · exact ⟨by kernel_rfl, of_decide_eq_true (by kernel_rfl)⟩
  obtain ⟨tG0, hG0⟩ := stateSound_glob0 hL
  obtain ⟨tG1, hG1⟩ := stateSound_glob1 hL
  refine (calls_of_Fv Tryz.func3 rfl (by kernel_rfl) (Fv.to (windroselaw19_StateSound_c _ hG0 hG1 x0 _ r0_25 _ r0_26 _ r0_27 _ r0_28) (congrArg Value.bool (stateSound_true _)))).mono fun e W' ⟨he, hb⟩ => ?_
  subst he
  exact ⟨_, rfl, post_true stateSound_laid hW' rfl hpar rfl rfl Tryz.underlying4 hb⟩
theorem stateSound_holds : Rows.StateSoundSaid :=
  OpenClaim.holds_of_wide 3 Tryz.f3 rfl rfl rfl rfl rfl rfl rfl ⟨rfl, rfl, rfl, rfl, rfl⟩ rfl rfl rfl rfl rfl (by kernel_rfl) Tryz.func3 (by kernel_rfl)
    (of_decide_eq_true (by kernel_rfl)) (by unfold Func.isWrapper; first | (rw [if_pos (by decide +kernel)]; kernel_rfl) | (rw [if_neg (by decide +kernel)]; exact ⟨rfl, rfl⟩))
    (fun os started H enc _ => stateSound_lifted os started H enc)
theorem stateSound_card : Rows.StateSoundCardSaid :=
  Claim7.holds_tied_plain_at .later [] [.data, .widerDeep] true (true, "42b91d91bb5cceefb1a936fdbcea4731cd935a18da40390b675becf6e1372b46") true
    stateSound_holds (fun _ h => by cases h) (by kernel_rfl) (fun _ h => by cases h) stateSound_row_tie rfl ⟨rfl, rfl⟩ (by kernel_rfl) rfl
    (fun f fn hf hfn => by
      obtain rfl : f = 3 := Option.some.inj ((show Tryz.prog.funcNamed "windrose/windroselaw19.StateSound" = some 3 by kernel_rfl).symm.trans hf) |>.symm
      obtain rfl : fn = Tryz.f3 := (Option.some.inj (Tryz.func3.symm.trans hfn)).symm
      exact ⟨by kernel_rfl, fun j t ht => by
        rw [Tryz.params3] at ht
        have hm : t ∈ [31] := by simpa using Array.mem_of_getElem? ht
        have hall : ([31].all fun u => !Tryz.prog.wantsStandIn u) = true := by kernel_rfl
        exact (show Tryz.prog.wantsStandIn t = false by simpa using List.all_eq_true.1 hall t hm)⟩)
    (by kernel_rfl)
end Go.Proofs.YtflpmgehkoachaaGreatDoor
