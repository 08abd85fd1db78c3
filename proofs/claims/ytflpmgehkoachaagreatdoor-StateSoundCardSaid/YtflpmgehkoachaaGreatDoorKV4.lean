/- Lemmas. -/
import Derived.Test.YtflpmgehkoachaaGreatDoorKV3
set_option maxHeartbeats 3200000
set_option linter.unusedVariables false
set_option linter.unusedSimpArgs false
namespace Go.SX
open Go Go.Proofs Go.Proofs.Tryz
def k_51 (a1 : Int → Int → Bool) : List Int → Nat → Unit → LR (Bool) (Unit)
  | [], kl1, sl1 => .go ()
  | yl1 :: ysl1, kl1, sl1 => if (!(a1 ((kl1 : Int)) yl1)) = true then (.ret false) else (k_51 a1 ysl1 (kl1 + 1) ())
def k_85 (a0 : List Int) (a1 : Int → Int → Bool) : Bool :=
  LR.on (k_51 a1 a0 0 ()) (fun r => r) (fun ol1 => true)
theorem alloc_all_Id_c (H : Heap) (va0 : Value) (a0 : List Int) (ha0 : RdS (intE .u64) H va0 a0) (a8 : Value) (a1 : Int → Int → Bool) (ha1 : ∀ H', HLe H H' → ∀ (z0 : Int) (z1 : Int), Fv Tryz.prog a8 [.int .i64 z0, .int .u64 z1] H' (.bool (a1 z0 z1))) (na1 : a8.oneCell' = true) : Fv Tryz.prog (fnv 161) [va0, a8] H (.bool (k_85 a0 a1)) := by
 refine Fc.of_body (N := 20) func161 rfl kA rfl rfl ?_
 intro w0
 obtain ⟨Aa0, ca0, rfl, hca0, hda0, ha0⟩ := ha0.shape
 refine sR (aA ?_)
 refine nN (T.seq (sR (mA ?_)))
 refine R.len underlying44 rfl rfl ?_
 refine mA ?_
 refine nN (T.block (T.loop (ι := Nat) (fun a2 H' L' ds' => a2 ≤ a0.length ∧ Has L' [] ∧ k_51 a1 (a0.drop a2) a2 () = k_51 a1 a0 0 ()) (fun a2 => [(9, .int .i64 (a2 : Int)), (1, a8), (7, .slice Aa0 a0.length ca0), (8, .int .i64 (a0.length : Int))]) (fun a2 => a0.length - a2) 0 ?_ ?_ ?_))
 exact ⟨oA, Has.nil, (by rfl)⟩
 exact ⟨rfl, rfl, rfl, rfl, trivial⟩
 intro a2 σ_l1 H_l1 L_l1 ds_l1 a5 a3
 obtain ⟨hkl1, a3⟩ := a3
 obtain ⟨hLl1, a6⟩ := a3
 refine T.has hLl1 ?_
 refine sR (R.lss rfl rfl rfl ?_)
 refine nN (T.seq (T.condD rfl (fun c10 => ?_) (fun c10 => ?_)))
 have hltl1 : a2 < a0.length := by omega
 obtain ⟨yl1, a7⟩ := getk (xs := a0) (k := a2) oA
 refine T.skip (Post.thnN (T.seq ?_))
 refine T.block (sR (mA ?_))
 obtain ⟨b12, o12, i12, k12⟩ := RdS.elem (ha0.mono a5) a7
 obtain ⟨l12, g12, k12⟩ := k12
 obtain rfl : l12 = [.int .u64 yl1] := g12
 refine R.ixp underlying44 sizeOf39 rfl rfl rfl oA i12 ?_
 refine R.ldC isAgg39 rfl rfl (k12 0 _ rfl) ?_
 refine aA ?_
 refine aA ?_
 refine nN (sR (mA ?_))
 refine mA ?_
 refine mA ?_
 refine R.callv rfl rfl rfl (ha1 _ a5 ((a2 : Int)) (yl1)) ?_
 refine R.not rfl rfl ?_
 refine nN (T.cond rfl (fun a4 => ?_) (fun a4 => ?_))
 refine T.set 18 (.bool true) (congrArg Value.bool a4) ?_
 refine sR (aA ?_)
 refine nN (T.has Has.nil ?_)
 refine T.ret (Post.blkR (Post.thnR (Post.thnR (Post.blkR (Post.thnR ?_)))))
 have hXl1 : k_51 a1 a0 0 () = .ret false := by rw [← a6, k_8 a7, k_51]; rw [if_t a4]
 have hM : k_85 a0 a1 = false := by rw [k_85, hXl1, LR.on_ret]
 exact fin1L (v := .bool false) [] rfl rfl (List.Sublist.refl _) ⟨rfl, by first | rw [hM] | rfl⟩
 refine T.set 18 (.bool false) (congrArg Value.bool a4) ?_
 refine T.skip (Post.blkN ?_)
 refine id (Post.thnN (T.region ?_))
 refine R.addI rfl rfl rfl oA ?_
 refine mA ?_
 refine nN ?_
 exact ⟨a2 + 1, a5, ⟨oA, Has.nil, (by rw [← a6, k_8 a7, k_51]; rw [if_f a4])⟩, by show a0.length - (a2 + 1) < a0.length - a2; omega, rfl, rfl, rfl, rfl, trivial⟩
 refine T.exit (Post.thnE (Post.thnE (Post.blkX ?_)))
 have hEl1 : k_51 a1 a0 0 () = .go () := (a6.symm.trans (by rw [show a2 = a0.length by omega, List.drop_length, k_51]))
 refine id (Post.thnN (sR ?_))
 refine aA ?_
 refine nN (T.has Has.nil ?_)
 refine T.ret ?_
 have hM : k_85 a0 a1 = true := by rw [k_85, hEl1, LR.on_go]
 exact fin1L (v := .bool true) [] rfl rfl (List.Sublist.refl _) ⟨rfl, by first | rw [hM] | rfl⟩
theorem all_id_l1 (f : Int → Int → Bool) : ∀ (l : List Int) (k : Nat), k_51 f l k () = .go () → ∀ (i : Nat) (x : Int), l[i]? = some x → f ((k + i : Nat) : Int) x = true
  | [], k, _, i, x, h => by simp at h
  | y :: ys, k, hg, i, x, h => by
    rw [k_51] at hg
    cases hf : f (k : Int) y with
    | false => rw [hf, Bool.not_false, if_pos rfl] at hg; cases hg
    | true =>
      rw [hf, Bool.not_true, if_neg (by decide)] at hg
      cases i with
      | zero => simp at h; subst h; simpa using hf
      | succ i => rw [show k + (i + 1) = k + 1 + i by omega]; exact all_id_l1 f ys (k + 1) hg i x (by simpa using h)
theorem all_id_ret (f : Int → Int → Bool) : ∀ (l : List Int) (k : Nat), k_51 f l k () = .go () ∨ k_51 f l k () = .ret false
  | [], k => .inl rfl
  | y :: ys, k => by
    rw [k_51]
    split
    · exact .inr rfl
    · exact all_id_ret f ys (k + 1)
theorem all_id {f : Int → Bool} {l : List Int} (h : k_85 l (fun _ z => f z) = true) : ∀ x ∈ l, f x = true := by
  intro x hx
  obtain ⟨i, hi⟩ := List.mem_iff_getElem?.1 hx
  unfold k_85 at h
  rcases all_id_ret (fun _ z => f z) l 0 with h1 | h1
  · exact all_id_l1 (fun _ z => f z) l 0 h1 i x hi
  · rw [h1] at h; cases h
def k_ab (q0 : Int × (List (Int × Bool)) × (List Int)) (a0 : Int) (a1 : Int) : Bool :=
  (k_59 q0 a1)
theorem alloc_Give_1_c (H : Heap) (a4 : Nat) (q0 : Int × (List (Int × Bool)) × (List Int)) (a5 : Value) (a2 : RdS slotE H a5 q0.2.1) (a6 : Value) (a3 : RdS (intE .i64) H a6 q0.2.2) (hb0 : H a4 = some (.cells #[.int .i64 q0.1, a5, a6] 27)) (a0 : Int) (a1 : Int) (hs : q0.2.1.length ≤ 2000000) (hf : q0.2.2.length ≤ 2000000) : Fv Tryz.prog (.func (.func 162) #[] ([.pointer (some ⟨a4, 0, none⟩)] : List Value).toArray) [.int .i64 a0, .int .u64 a1] H (.bool (k_ab q0 a0 a1)) := by
 refine Fc.of_body (N := 9) func162 rfl kA rfl rfl ?_
 intro w0
 obtain ⟨a7, a8, rfl, hcq0_1, hdq0_1, a2⟩ := a2.shape
 obtain ⟨a9, b0, rfl, hcq0_2, hdq0_2, a3⟩ := a3.shape
 refine sR (aA ?_)
 refine nN (sR (R.ldXH (cs := [.int .i64 (q0.1), .slice a7 q0.2.1.length a8, .slice a9 q0.2.2.length b0]) (l := [.int .i64 (q0.1), .slice a7 q0.2.1.length a8, .slice a9 q0.2.2.length b0]) isAgg27 sizeOf27 rfl rfl hb0 rfl rfl ?_))
 refine mA ?_
 refine R.callv rfl rfl rfl (alloc_alive_c _ q0 _ a2 _ a3 (a1) bA bA) ?_
 refine aA ?_
 refine nN (T.has Has.nil ?_)
 refine T.ret ?_
 have hM : k_ab q0 a0 a1 = (k_59 q0 a1) := by rw [k_ab]
 exact fin1L (v := .bool ((k_59 q0 a1))) [] rfl rfl (List.Sublist.refl _) ⟨rfl, by first | rw [hM] | rfl⟩
def k_49 (x7l1 : List Int) : Nat → Nat → ((List (Int × Bool)) × Int × (List (Int × Bool)) × (List Int)) → LR ((Int × (List (Int × Bool)) × (List Int)) × Int) ((List (Int × Bool)) × Int × (List (Int × Bool)) × (List Int))
  | 0, kl2, sl2 => .go ((sl2.1, sl2.2.1, sl2.2.2.1, sl2.2.2.2))
  | ml2 + 1, kl2, sl2 => LR.seq (if (((sortI x7l1)).getD kl2 (0 : Int)) ≤ 2 then true else (if (0 : Int) < (kl2 : Int) then ((decide ((((sortI x7l1)).getD ((((kl2 : Int) - 1)).toNat) (0 : Int)) = (((sortI x7l1)).getD kl2 (0 : Int))))) else false) : Bool) (fun sc3 => if sc3 = true then (.ret ((((0, [], []) : Int × (List (Int × Bool)) × (List Int)), 2))) else (if (k_72 (((sl2.2.2.1.getD ((((((sortI x7l1)).getD kl2 (0 : Int)) - 1)).toNat) (((0, false) : Int × Bool) : Int × Bool)).1, false))) = true then (k_49 x7l1 ml2 (kl2 + 1) ((sl2.1, sl2.2.1, (sl2.2.2.1.set ((((((sortI x7l1)).getD kl2 (0 : Int)) - 1)).toNat) (((sl2.2.2.1.getD ((((((sortI x7l1)).getD kl2 (0 : Int)) - 1)).toNat) (((0, false) : Int × Bool) : Int × Bool)).1, false))), (sl2.2.2.2 ++ [(((sortI x7l1)).getD kl2 (0 : Int))])))) else (k_49 x7l1 ml2 (kl2 + 1) ((sl2.1, sl2.2.1, (sl2.2.2.1.set ((((((sortI x7l1)).getD kl2 (0 : Int)) - 1)).toNat) (((sl2.2.2.1.getD ((((((sortI x7l1)).getD kl2 (0 : Int)) - 1)).toNat) (((0, false) : Int × Bool) : Int × Bool)).1, false))), sl2.2.2.2)))))
def k_64  : List Int → ((List Int)) → (List Int)
  | [], sl1 => sl1
  | yl1 :: ysl1, sl1 => LR.seq (k_1 yl1) (fun r34 => k_64 ysl1 ((sl1 ++ [r34.1])))
def k_5c (a0 : Int × (List (Int × Bool)) × (List Int)) (a1 : List Int) : (Int × (List (Int × Bool)) × (List Int)) × Int :=
  if ((k_27 a0) : Int) ≠ 0 then ((((0, [], []) : Int × (List (Int × Bool)) × (List Int)), (k_27 a0))) else (if (!(k_85 a1 ((fun z0 z1 => k_ab a0 z0 z1)))) = true then ((((0, [], []) : Int × (List (Int × Bool)) × (List Int)), 122)) else (LR.seq (k_64 a1 []) (fun ol1 => LR.seq (k_a2 a0) (fun r45 => LR.on (k_49 ol1 (ol1.length - 0) 0 ((r45.2.1, r45.1, r45.2.1, r45.2.2))) (fun r => r) (fun ol2 => ((ol2.2.1, ol2.2.2.1, ol2.2.2.2), 0))))))
theorem alloc_Give_c (H : Heap) {tG1 : TypeId} (hG1 : gA H 1 tG1) (a0 : Int × (List (Int × Bool)) × (List Int)) (g9 : Value) (c8 : RdS slotE H g9 a0.2.1) (h0 : Value) (c9 : RdS (intE .i64) H h0 a0.2.2) (va1 : Value) (a1 : List Int) (h3 : RdS (intE .u64) H va1 a1) (hs : a0.2.1.length ≤ 2000000) (hf : a0.2.2.length ≤ 2000000) (hl : a1.length ≤ 2000000) : Fc Tryz.prog (fnv 93) [.agg #[.int .i64 a0.1, g9, h0], va1] H [] (fun v' H' L' => ∃ h8 h9 i0 i1, v' = .tuple #[.agg #[.int .i64 (k_5c a0 a1).1.1, h8, h9], .int .i64 (k_5c a0 a1).2] ∧ L' = [i0, i1] ∧ OwnS slotE 110 H' h8 (k_5c a0 a1).1.2.1 i0 ∧ OwnS (intE .i64) 3 H' h9 (k_5c a0 a1).1.2.2 i1) := by
 refine Fc.of_body (N := 89) func93 rfl kA rfl rfl ?_
 intro w0
 obtain ⟨d0, d1, rfl, hca0_1, hda0_1, c8⟩ := c8.shape
 obtain ⟨d2, d3, rfl, hca0_2, hda0_2, c9⟩ := c9.shape
 obtain ⟨Aa1, ca1, rfl, hca1, hda1, h3⟩ := h3.shape
 refine sR (R.box rfl cA ?_)
 intro b2
 refine R.alloc zeroValue27 rfl ?_
 intro b4
 refine aA ?_
 refine nN (T.seq (sR (R.ldX (cs := [.int .i64 (a0.1), .slice d0 a0.2.1.length d1, .slice d2 a0.2.2.length d3]) (l := [.int .i64 (a0.1), .slice d0 a0.2.1.length d1, .slice d2 a0.2.2.length d3]) isAgg27 sizeOf27 rfl rfl (.tl .hd) rfl rfl ?_)))
 refine R.callv rfl rfl rfl (k_b4 _ hG1 a0 _ c8 _ c9 bA bA) ?_
 refine aA ?_
 refine nN (sR (mA ?_))
 refine R.neq rfl rfl rfl ?_
 refine nN (T.condD rfl (fun e1 => ?_) (fun e1 => ?_))
 refine T.set 18 (.bool true) (congrArg Value.bool (decide_eq_true e1)) ?_
 refine sR (R.bld (cs := [.int .i64 0, .slice none 0 0, .slice none 0 0]) rfl (fun _ => by kernel_rfl) ?_)
 refine mA ?_
 refine stY (l := [.int .i64 0, .slice none 0 0, .slice none 0 0]) (new := [.int .i64 0, .slice none 0 0, .slice none 0 0]) .hd sizeOf27 rfl rfl ?_
 refine aA ?_
 refine nN (T.has (Has.none (Has.none (Has.cons .hd Has.nil))) ?_)
 refine T.ret (Post.thnR ?_)
 have hM : k_5c a0 a1 = (((0, [], []) : Int × (List (Int × Bool)) × (List Int)), (k_27 a0)) := by rw [k_5c, if_pos e1]
 exact finR2 (v := .agg #[.int .i64 0, .slice none 0 0, .slice none 0 0]) (v' := .int .i64 (k_27 a0)) [[], []] rfl (.cellA (cs := [.int .i64 0, .slice none 0 0, .slice none 0 0]) (l := [.int .i64 0, .slice none 0 0, .slice none 0 0]) isAgg27 sizeOf27 rfl (.tl (.tl .hd)) rfl rfl) (.tmp rfl) (List.sublist_append_left ([[], []] : Own) _) ⟨.slice none 0 0, .slice none 0 0, [], [], by first | rw [hM] | rfl, rfl, by rw [hM]; exact OwnS.nil, by rw [hM]; exact OwnS.nil⟩
 refine T.set 18 (.bool false) (congrArg Value.bool (decide_eq_false e1)) ?_
 refine T.skip (Post.thnN (T.seq ?_))
 refine sR (mA ?_)
 refine R.mkf (cs := [_]) rfl rfl ?_
 refine R.callvB rfl rfl rfl (fun HB23 g4 qB23 => by have h6 := shut1 (In.all (.tl .hd) qB23); exact (alloc_all_Id_c _ _ a1 (h3.mono g4) _ (fun z0 z1 => k_ab a0 z0 z1) (fun H2 h2 z0 z1 => alloc_Give_1_c H2 b2 a0 _ ((c8.mono g4).mono h2) _ ((c9.mono g4).mono h2) (h2 _ _ h6) z0 z1 bA bA) rfl)) ?_
 refine R.not rfl rfl ?_
 refine nN (T.cond rfl (fun c24 => ?_) (fun c24 => ?_))
 refine T.set 24 (.bool true) (congrArg Value.bool c24) ?_
 refine sR (R.bld (cs := [.int .i64 0, .slice none 0 0, .slice none 0 0]) rfl (fun _ => by kernel_rfl) ?_)
 refine stY (l := [.int .i64 0, .slice none 0 0, .slice none 0 0]) (new := [.int .i64 0, .slice none 0 0, .slice none 0 0]) .hd sizeOf27 rfl rfl ?_
 refine aA ?_
 refine nN (T.has (Has.none (Has.none (Has.cons .hd Has.nil))) ?_)
 refine T.ret (Post.thnR ?_)
 have hM : k_5c a0 a1 = (((0, [], []) : Int × (List (Int × Bool)) × (List Int)), 122) := by rw [k_5c, if_neg e1, if_t c24]
 exact finR2 (v := .agg #[.int .i64 0, .slice none 0 0, .slice none 0 0]) (v' := .int .i64 122) [[], []] rfl (.cellA (cs := [.int .i64 0, .slice none 0 0, .slice none 0 0]) (l := [.int .i64 0, .slice none 0 0, .slice none 0 0]) isAgg27 sizeOf27 rfl (.tl (.tl .hd)) rfl rfl) (.tmp rfl) (List.sublist_append_left ([[], []] : Own) _) ⟨.slice none 0 0, .slice none 0 0, [], [], by first | rw [hM] | rfl, rfl, by rw [hM]; exact OwnS.nil, by rw [hM]; exact OwnS.nil⟩
 refine T.set 24 (.bool false) (congrArg Value.bool c24) ?_
 have hall : k_85 a1 (fun z0 z1 => k_ab a0 z0 z1) = true := by simpa using c24
 refine T.skip (Post.thnN (sR ?_))
 refine aA ?_
 refine nN (T.seq (sR (mA ?_)))
 refine R.len underlying44 rfl rfl ?_
 refine mA ?_
 refine nN (T.block (T.loop (ι := Nat × Value × (List Int) × Chunk) (fun ⟨b9, e2, a2, e3⟩ H' L' ds' => b9 ≤ a1.length ∧ Has L' [[(b4, .cells #[.int .i64 0, .slice none 0 0, .slice none 0 0] 27)], [(b2, .cells #[.int .i64 (a0.1), .slice d0 a0.2.1.length d1, .slice d2 a0.2.2.length d3] 27)], e3] ∧ OwnS (intE .i64) 3 H' e2 a2 e3 ∧ a2.length ≤ b9 ∧ (∀ x ∈ a2, 1 ≤ x ∧ x ≤ (a0.2.1.length : Int)) ∧ k_64 (a1.drop b9) a2 = k_64 a1 []) (fun ⟨b9, e2, a2, e3⟩ => [(28, .int .i64 (b9 : Int)), (2, .pointer (some ⟨b2, 0, none⟩)), (4, .pointer (some ⟨b4, 0, none⟩)), (7, e2), (26, .slice Aa1 a1.length ca1), (27, .int .i64 (a1.length : Int))]) (fun ⟨b9, e2, a2, e3⟩ => a1.length - b9) (0, .slice none 0 0, [], []) ?_ ?_ ?_))
 exact ⟨oA, (Has.cons .hd (Has.cons .hd (Has.none Has.nil))), OwnS.nil, (by first | omega | simp | (intro x hx; cases hx)), (by first | omega | simp | (intro x hx; cases hx)), (by rfl)⟩
 exact ⟨rfl, rfl, rfl, rfl, rfl, rfl, trivial⟩
 intro ⟨b9, e2, a2, e3⟩ σ_l1 H_l1 L_l1 ds_l1 f0 f1
 obtain ⟨hkl1, f1⟩ := f1
 obtain ⟨hLl1, g5, hBl1_0, e4, i2⟩ := f1
 obtain ⟨f2, f3, rfl, m7l1, n7l1_⟩ := OwnS.shape g5
 refine T.has hLl1 ?_
 refine sR (R.lss rfl rfl rfl ?_)
 refine nN (T.seq (T.condD rfl (fun c29 => ?_) (fun c29 => ?_)))
 have hltl1 : b9 < a1.length := by omega
 obtain ⟨g1, f4⟩ := getk (xs := a1) (k := b9) oA
 refine T.skip (Post.thnN (T.seq ?_))
 refine T.block (sR ?_)
 obtain ⟨b30, o30, i30, k30⟩ := RdS.elem (h3.mono f0) f4
 obtain ⟨l30, g30, k30⟩ := k30
 obtain rfl : l30 = [.int .u64 g1] := g30
 refine R.ixp underlying44 sizeOf39 rfl rfl rfl oA i30 ?_
 refine R.ldC isAgg39 rfl rfl (k30 0 _ rfl) ?_
 refine aA ?_
 refine nN (sR (mA ?_))
 obtain ⟨e5, f5⟩ : ∃ r, r = (k_1 g1) := ⟨_, rfl⟩
 refine R.callv (v := .tuple #[.int .i64 e5.1, .int .i64 e5.2]) rfl rfl rfl (by rw [f5]; exact k_57 _ (g1)) ?_
 refine mA ?_
 refine R.ext rfl rfl rfl ?_
 refine R.ext rfl rfl rfl ?_
 refine aA ?_
 refine aA ?_
 refine nN (T.region (mA ?_))
 refine mA ?_
 refine R.bs rfl (k_4 underlying25 sizeOf3 zeroValue3 rfl rfl) ?_
 intro b39
 have w39 := lit1 (E := (intE .i64)) (e := 3) (H := H_l1) (b := b39) (y := e5.1) (a := [.int .i64 (e5.1)]) rfl
 obtain ⟨k40, y40, r40⟩ := Src.ownA w39
 refine R.app (E := (intE .i64)) (e := 3) (xs := a2) (ys := [e5.1]) k_aa rfl rfl rfl g5 (.tl (.tl (.tl .hd))) (r40 _ .hd) y40 lA lA ?_
 intro v40 c40 w40
 obtain ⟨A40, p40, rfl, m40, n40⟩ := OwnS.shape w40
 refine TL.del (.tl .hd) ?_
 refine aA ?_
 refine TL.nil (Post.blkN ?_)
 refine id (Post.thnN (T.region ?_))
 refine R.addI rfl rfl rfl oA ?_
 refine mA ?_
 refine nN ?_
 exact ⟨(b9 + 1, sl A40 (a2 ++ [e5.1]) p40, (a2 ++ [e5.1]), c40), f0, ⟨oA, (Has.cons (.tl .hd) (Has.cons (.tl .hd) (Has.cons .hd Has.nil))), w40, (by first | omega | (simp only [List.length_append, List.length_cons, List.length_nil]; omega) | (intro x hx; rcases List.mem_append.1 hx with h | h; exact e4 x h; obtain rfl := List.mem_singleton.1 h; rw [f5]; exact alive_rng (all_id hall g1 (List.mem_of_getElem? f4)))), (by first | omega | (simp only [List.length_append, List.length_cons, List.length_nil]; omega) | (intro x hx; rcases List.mem_append.1 hx with h | h; exact e4 x h; obtain rfl := List.mem_singleton.1 h; rw [f5]; exact alive_rng (all_id hall g1 (List.mem_of_getElem? f4)))), (by subst f5; rw [← i2, k_8 f4, k_64]; rw [LR.seq_go])⟩, by show a1.length - (b9 + 1) < a1.length - b9; omega, rfl, rfl, rfl, rfl, rfl, rfl, trivial⟩
 refine T.exit (Post.thnE (Post.thnE (Post.blkX ?_)))
 have i3 : k_64 a1 [] = a2 := (i2.symm.trans (by rw [show b9 = a1.length by omega, List.drop_length, k_64]))
 have hsx : ∀ x ∈ sortI a2, 1 ≤ x ∧ x ≤ (a0.2.1.length : Int) := fun x hx => e4 x ((k_26 _).mem_iff.1 hx)
 refine id (Post.thnN (sR ?_))
 refine mA ?_
 refine TL.call [false, false, true] rfl rfl rfl (sortA_c _ _ _ _ g5 bA) ?_
 intro v43 H43 L43 s43 q43
 obtain ⟨rfl, c43, rfl, w43⟩ := q43
 refine nN (sR (R.ldX (cs := [.int .i64 (a0.1), .slice d0 a0.2.1.length d1, .slice d2 a0.2.2.length d3]) (l := [.int .i64 (a0.1), .slice d0 a0.2.1.length d1, .slice d2 a0.2.2.length d3]) isAgg27 sizeOf27 rfl rfl (.tl (.tl .hd)) rfl rfl ?_))
 obtain ⟨b0, f6⟩ : ∃ r, r = (k_a2 a0) := ⟨_, rfl⟩
 refine TL.call [] rfl rfl rfl (alloc_own_c _ a0 _ (c8.mono f0) _ (c9.mono f0) bA bA) ?_
 intro v45 H45 L45 s45 g2
 rw [← f6] at g2
 obtain ⟨j3, j4, e8, h7, rfl, rfl, d5, e9⟩ := g2
 obtain ⟨c4, c5, rfl, j5, j6⟩ := OwnS.shape d5
 obtain ⟨d6, d7, rfl, j7, j8⟩ := OwnS.shape e9
 have g2 := f6.trans (alloc_own_eq _)
 have ta45 := congrArg (fun q => q.2.1.length) g2
 have tb45 := congrArg (fun q => q.2.2.length) g2
 try dsimp only at ta45 tb45
 refine stY (l := [.int .i64 (b0.1), sl c4 b0.2.1 c5, sl d6 b0.2.2 d7]) (new := [.int .i64 (b0.1), sl c4 b0.2.1 c5, sl d6 b0.2.2 d7]) (.tl (.tl (.tl (.tl .hd)))) sizeOf27 rfl rfl ?_
 refine nN (T.seq (sR (mA ?_)))
 refine R.len underlying25 rfl rfl ?_
 refine mA ?_
 refine nN (T.block (T.loop (ι := Nat × (List (Int × Bool)) × Chunk × Int × Value × (List (Int × Bool)) × Chunk × Value × (List Int) × Chunk) (fun ⟨a6, a9, b6, a5, c0, a3, b7, c1, a4, b1⟩ H' L' ds' => a6 ≤ a2.length ∧ Has L' [c43, [(b4, .cells #[.int .i64 0, .slice none 0 0, .slice none 0 0] 27)], [(b2, .cells #[.int .i64 a5, c0, c1] 27)], b7, b1] ∧ OwnS slotE 110 H' (.slice c4 b0.2.1.length c5) a9 b6 ∧ OwnS slotE 110 H' c0 a3 b7 ∧ OwnS (intE .i64) 3 H' c1 a4 b1 ∧ a3.length = a0.2.1.length ∧ a4.length ≤ a0.2.2.length + a6 ∧ k_49 a2 (a2.length - a6) a6 ((a9, a5, a3, a4)) = k_49 a2 (a2.length - 0) 0 ((b0.2.1, b0.1, b0.2.1, b0.2.2))) (fun ⟨a6, a9, b6, a5, c0, a3, b7, c1, a4, b1⟩ => [(48, .int .i64 (a6 : Int)), (2, .pointer (some ⟨b2, 0, none⟩)), (4, .pointer (some ⟨b4, 0, none⟩)), (7, .slice f2 a2.length f3), (46, .slice f2 a2.length f3), (47, .int .i64 (a2.length : Int))]) (fun ⟨a6, a9, b6, a5, c0, a3, b7, c1, a4, b1⟩ => a2.length - a6) (0, b0.2.1, e8, b0.1, .slice c4 b0.2.1.length c5, b0.2.1, e8, .slice d6 b0.2.2.length d7, b0.2.2, h7) ?_ ?_ ?_))
 exact ⟨oA, (Has.cons (.tl (.tl .hd)) (Has.cons (.tl (.tl .hd)) (Has.cons (.tl (.tl .hd)) (Has.cons .hd (Has.cons .hd Has.nil))))), d5, d5, e9, bA, bA, (by rfl)⟩
 exact ⟨rfl, rfl, rfl, rfl, rfl, rfl, trivial⟩
 intro ⟨a6, a9, b6, a5, c0, a3, b7, c1, a4, b1⟩ σ_l2 H_l2 L_l2 ds_l2 f7 f8
 obtain ⟨hkl2, f8⟩ := f8
 obtain ⟨hLl2, d4, c6, c7, hBl2_0, hBl2_1, f9⟩ := f8
 obtain ⟨a7, a8, rfl, j9, j1⟩ := OwnS.shape c6
 obtain ⟨b3, b5, rfl, k0, j2⟩ := OwnS.shape c7
 refine T.has hLl2 ?_
 refine sR (R.lss rfl rfl rfl ?_)
 refine nN (T.seq (T.condD rfl (fun c49 => ?_) (fun c49 => ?_)))
 have hltl2 : a6 < a2.length := by omega
 refine T.skip (Post.thnN (T.seq ?_))
 refine T.block (sR (mA ?_))
 have g6 : a6 < a2.length := bA
 obtain ⟨b8, e51, h51⟩ : ∃ y, y = (((sortI a2)).getD a6 (0 : Int)) ∧ ((sortI a2))[a6]? = some y := ⟨_, rfl, k_46 (by first | exact g6 | simpa using g6 | (simp only [List.length_set]; omega) | omega | (rw [(k_26 _).length_eq]; exact g6))⟩
 obtain ⟨b51, u51, cs51, l51, f51, j51, i51, g51, k51⟩ := OwnS.elem (OwnS.mono w43 (s45.trans f7)) h51
 obtain rfl : l51 = [.int .i64 b8] := g51
 refine R.ixp (sz := ((intE .i64)).size) underlying25 sizeOf3 rfl rfl rfl bA i51 ?_
 refine R.ld isAgg3 rfl rfl (by rw [← f51]; exact .hd) (k51 0 _ rfl) ?_
 refine aA ?_
 refine aA ?_
 refine nN (T.seq (T.seq (T.cutK (ι := Bool) (fun d9 H' L' ds' => Has L' [c43, [(b4, .cells #[.int .i64 0, .slice none 0 0, .slice none 0 0] 27)], [(b2, .cells #[.int .i64 a5, .slice a7 a3.length a8, .slice b3 a4.length b5] 27)], b7, b1] ∧ (if b8 ≤ 2 then true else (if (0 : Int) < (a6 : Int) then ((decide ((((sortI a2)).getD ((((a6 : Int) - 1)).toNat) (0 : Int)) = b8))) else false) : Bool) = d9) (fun d9 => [(2, .pointer (some ⟨b2, 0, none⟩)), (4, .pointer (some ⟨b4, 0, none⟩)), (7, .slice f2 a2.length f3), (13, .int .i64 b8), (46, .slice f2 a2.length f3), (47, .int .i64 (a2.length : Int)), (48, .int .i64 (a6 : Int)), (67, .bool (d9))]) ?_ ?_)))
 refine T.region (mA ?_)
 refine R.leq rfl rfl rfl ?_
 refine mA ?_
 refine TL.gsplitD 55 rfl (fun h4 => ?_) (fun h4 => ?_)
 refine oF ?_
 refine oF ?_
 refine oF ?_
 refine TL.offU rfl rfl ?_
 refine TL.offU rfl rfl ?_
 refine TL.offU rfl rfl ?_
 refine TL.offU rfl rfl ?_
 refine TL.offU rfl rfl ?_
 refine TL.offU rfl rfl ?_
 refine TL.offU rfl rfl ?_
 refine oF ?_
 refine R.pkTE rfl rfl cA ?_
 refine nN ?_
 exact ⟨true, HLe.refl _, ⟨(Has.cons .hd (Has.cons .hd (Has.cons .hd (Has.cons .hd (Has.cons .hd Has.nil))))), (by rw [if_pos h4])⟩, rfl, rfl, rfl, rfl, rfl, rfl, rfl, rfl, trivial⟩
 refine mA ?_
 refine R.gtr rfl rfl rfl ?_
 refine mA ?_
 refine TL.gsplitD 58 rfl (fun g58 => ?_) (fun g58 => ?_)
 refine mA ?_
 refine mA ?_
 refine R.subI rfl rfl rfl oA ?_
 have g7 : (((a6 : Int) - 1)).toNat < a2.length := bA
 obtain ⟨y62, e62, h62⟩ : ∃ y, y = (((sortI a2)).getD ((((a6 : Int) - 1)).toNat) (0 : Int)) ∧ ((sortI a2))[(((a6 : Int) - 1)).toNat]? = some y := ⟨_, rfl, k_46 (by first | exact g7 | simpa using g7 | (simp only [List.length_set]; omega) | omega | (rw [(k_26 _).length_eq]; exact g7))⟩
 obtain ⟨b62, u62, cs62, l62, f62, j62, i62, g62, k62⟩ := OwnS.elem (OwnS.mono w43 (s45.trans f7)) h62
 obtain rfl : l62 = [.int .i64 y62] := g62
 refine R.ixp (sz := ((intE .i64)).size) underlying25 sizeOf3 rfl rfl rfl bA i62 ?_
 refine R.ld isAgg3 rfl rfl (by rw [← f62]; exact .hd) (k62 0 _ rfl) ?_
 refine mA ?_
 refine R.eql rfl rfl rfl ?_
 refine R.pkTE rfl rfl cA ?_
 refine R.pkFE rfl rfl cA ?_
 refine nN ?_
 exact ⟨(decide (y62 = b8)), HLe.refl _, ⟨(Has.cons .hd (Has.cons .hd (Has.cons .hd (Has.cons .hd (Has.cons .hd Has.nil))))), (by subst e62; rw [if_neg h4, if_pos g58])⟩, rfl, rfl, rfl, rfl, rfl, rfl, rfl, rfl, trivial⟩
 refine oF ?_
 refine oF ?_
 refine oF ?_
 refine oF ?_
 refine oF ?_
 refine oF ?_
 refine oF ?_
 refine R.pkFE rfl rfl cA ?_
 refine R.pkFE rfl rfl cA ?_
 refine nN ?_
 exact ⟨false, HLe.refl _, ⟨(Has.cons .hd (Has.cons .hd (Has.cons .hd (Has.cons .hd (Has.cons .hd Has.nil))))), (by rw [if_neg h4, if_neg g58])⟩, rfl, rfl, rfl, rfl, rfl, rfl, rfl, rfl, trivial⟩
 intro d9 σ_c3 H_c3 L_c3 ds_c3 c2 j0
 obtain ⟨hLc3, e6⟩ := j0
 refine T.has hLc3 ?_
 refine T.cond rfl (fun d8 => ?_) (fun d8 => ?_)
 refine T.set 67 (.bool true) (congrArg Value.bool d8) ?_
 have g8 := e6.trans d8
 try simp only [or_f, or_t, and_f, and_t, decide_eq_true_eq, decide_eq_false_iff_not, Bool.not_eq_true'] at g8
 refine sR (R.bld (cs := [.int .i64 0, .slice none 0 0, .slice none 0 0]) rfl (fun _ => by kernel_rfl) ?_)
 refine stY (l := [.int .i64 0, .slice none 0 0, .slice none 0 0]) (new := [.int .i64 0, .slice none 0 0, .slice none 0 0]) (.tl .hd) sizeOf27 rfl rfl ?_
 refine aA ?_
 refine nN (T.has (Has.none (Has.none (Has.cons (.tl .hd) Has.nil))) ?_)
 refine T.ret (Post.thnR (Post.blkR (Post.thnR (Post.thnR (Post.blkR (Post.thnR ?_))))))
 have hXl2 : k_49 a2 (a2.length - 0) 0 ((b0.2.1, b0.1, b0.2.1, b0.2.2)) = .ret ((((0, [], []) : Int × (List (Int × Bool)) × (List Int)), 2)) := by subst e51; rw [← f9, show a2.length - a6 = (a2.length - (a6 + 1)) + 1 by omega, k_49]; rw [e6, LR.seq_go, if_t d8]
 have hM : k_5c a0 a1 = (((0, [], []) : Int × (List (Int × Bool)) × (List Int)), 2) := by subst f6; rw [k_5c, if_neg e1, if_f c24, i3, LR.seq_go, LR.seq_go, hXl2, LR.on_ret]
 exact finR2 (v := .agg #[.int .i64 0, .slice none 0 0, .slice none 0 0]) (v' := .int .i64 2) [[], []] rfl (.cellA (cs := [.int .i64 0, .slice none 0 0, .slice none 0 0]) (l := [.int .i64 0, .slice none 0 0, .slice none 0 0]) isAgg27 sizeOf27 rfl (.tl (.tl .hd)) rfl rfl) (.tmp rfl) (List.sublist_append_left ([[], []] : Own) _) ⟨.slice none 0 0, .slice none 0 0, [], [], by first | rw [hM] | rfl, rfl, by rw [hM]; exact OwnS.nil, by rw [hM]; exact OwnS.nil⟩
 refine T.set 67 (.bool false) (congrArg Value.bool d8) ?_
 have g8 := e6.trans d8
 try simp only [or_f, or_t, and_f, and_t, decide_eq_true_eq, decide_eq_false_iff_not, Bool.not_eq_true'] at g8
 refine T.skip (Post.thnN (T.seq ?_))
 have hidx := hsx b8 (List.mem_of_getElem? h51)
 refine T.region (fA underlying27 rfl sizeOf24 ?_)
 refine R.ld isAgg24 rfl rfl (.tl (.tl .hd)) rfl ?_
 refine mA ?_
 refine R.subI rfl rfl rfl oA ?_
 have e7 : ((b8 - 1)).toNat < a3.length := bA
 obtain ⟨c3, e73, h73⟩ : ∃ y, y = (a3.getD (((b8 - 1)).toNat) (((0, false) : Int × Bool) : Int × Bool)) ∧ a3[((b8 - 1)).toNat]? = some y := ⟨_, rfl, k_46 (by first | exact e7 | simpa using e7 | (simp only [List.length_set]; omega) | omega | (rw [(k_26 _).length_eq]; exact e7))⟩
 obtain ⟨b73, u73, cs73, l73, f73, j73, i73, g73, k73⟩ := OwnS.elem (OwnS.mono c6 c2) h73
 obtain rfl : l73 = [.int .i64 (c3.1), .bool (c3.2)] := g73
 refine R.ixp (sz := (slotE).size) underlying24 sizeOf110 rfl rfl rfl bA i73 ?_
 refine aA ?_
 refine nN (sR (mA ?_))
 refine R.nilck rfl rfl ?_
 refine fA underlying110 rfl sizeOf4 ?_
 refine R.stEF (E := slotE) (e := 110) (v := (sl a7 a3 a8)) (m := [.bool false]) (o := 1) (y := c3) (y' := (c3.1, false)) (j := ((b8 - 1)).toNat) sizeOf4 rfl (OwnS.mono c6 c2) (.tl (.tl (.tl .hd))) i73 rfl rfl (cells1 rfl) (k_3 rfl) h73 (by show 1 + 1 ≤ 2; decide) (fun l hl => by have e0 : l = [.int .i64 (c3.1), .bool (c3.2)] := hl; subst e0; exact rfl) ?_
 intro h5 g0
 refine nN (sR (mA ?_))
 refine R.nilck rfl rfl ?_
 obtain ⟨i4, u79_12, k1, i5, i6, i7, i79_12, i8, i9⟩ := OwnS.elem g0 (by rw [List.getElem?_set_self (by first | exact e7 | simpa using e7 | (simp only [List.length_set]; omega))])
 obtain rfl : i5 = [.int .i64 (c3.1), .bool false] := i8
 obtain rfl : i4 = b73 := by have h := i7.symm.trans j73; injection h with h1; injection h1 with h2; injection h2
 refine R.ldAt (l := [.int .i64 (c3.1), .bool false]) isAgg110 sizeOf110 rfl rfl (by rw [← i6]; exact .hd) rfl (fun j u h => i9 j u h) ?_
 refine R.callv rfl rfl rfl (alloc_usable_c _ ((c3.1, false))) ?_
 refine nN (T.cond rfl (fun g3 => ?_) (fun g3 => ?_))
 refine T.set 80 (.bool true) (congrArg Value.bool g3) ?_
 refine T.region (fA underlying27 rfl sizeOf25 ?_)
 refine R.ld isAgg25 rfl rfl (.tl (.tl (.tl .hd))) rfl ?_
 refine mA ?_
 refine R.bs rfl (k_4 underlying25 sizeOf3 zeroValue3 rfl rfl) ?_
 intro b84
 have w84 := lit1 (E := (intE .i64)) (e := 3) (H := H_c3) (b := b84) (y := b8) (a := [.int .i64 b8]) rfl
 obtain ⟨k85, y85, r85⟩ := Src.ownA w84
 refine R.app (E := (intE .i64)) (e := 3) (xs := a4) (ys := [b8]) k_aa rfl rfl rfl (OwnS.mono c7 c2) (.tl (.tl (.tl (.tl (.tl .hd))))) (r85 _ .hd) y85 lA lA ?_
 intro v85 c85 w85
 obtain ⟨A85, p85, rfl, m85, n85⟩ := OwnS.shape w85
 refine TL.del (.tl .hd) ?_
 refine fA underlying27 rfl sizeOf25 ?_
 refine stY (l := [sl A85 (a4 ++ [b8]) p85]) (new := [.int .i64 a5, sl a7 a3 a8, sl A85 (a4 ++ [b8]) p85]) (.tl (.tl (.tl (.tl .hd)))) sizeOf25 rfl (cells1 rfl) ?_
 refine TL.nil (Post.blkN ?_)
 refine id (Post.thnN (T.region ?_))
 refine R.addI rfl rfl rfl oA ?_
 refine mA ?_
 refine nN ?_
 exact ⟨(a6 + 1, a9, b6, a5, sl a7 a3 a8, (a3.set (((b8 - 1)).toNat) ((c3.1, false))), h5, sl A85 (a4 ++ [b8]) p85, (a4 ++ [b8]), c85), (f7.trans c2), ⟨oA, (Has.cons (.tl (.tl .hd)) (Has.cons (.tl (.tl .hd)) (Has.cons (.tl (.tl .hd)) (Has.cons (.tl .hd) (Has.cons .hd Has.nil))))), (OwnS.mono d4 c2), g0, w85, bA, bA, (by subst e73; subst e51; rw [← f9, show a2.length - a6 = (a2.length - (a6 + 1)) + 1 by omega, k_49]; rw [e6, LR.seq_go, if_f d8, if_t g3])⟩, by show a2.length - (a6 + 1) < a2.length - a6; omega, rfl, rfl, rfl, rfl, rfl, rfl, trivial⟩
 refine T.set 80 (.bool false) (congrArg Value.bool g3) ?_
 refine T.skip (Post.blkN ?_)
 refine id (Post.thnN (T.region ?_))
 refine R.addI rfl rfl rfl oA ?_
 refine mA ?_
 refine nN ?_
 exact ⟨(a6 + 1, a9, b6, a5, sl a7 a3 a8, (a3.set (((b8 - 1)).toNat) ((c3.1, false))), h5, sl b3 a4 b5, a4, b1), (f7.trans c2), ⟨oA, (Has.cons (.tl .hd) (Has.cons (.tl .hd) (Has.cons (.tl .hd) (Has.cons .hd (Has.cons .hd Has.nil))))), (OwnS.mono d4 c2), g0, (OwnS.mono c7 c2), bA, bA, (by subst e73; subst e51; rw [← f9, show a2.length - a6 = (a2.length - (a6 + 1)) + 1 by omega, k_49]; rw [e6, LR.seq_go, if_f d8, if_f g3])⟩, by show a2.length - (a6 + 1) < a2.length - a6; omega, rfl, rfl, rfl, rfl, rfl, rfl, trivial⟩
 refine T.exit (Post.thnE (Post.thnE (Post.blkX ?_)))
 have hEl2 : k_49 a2 (a2.length - 0) 0 ((b0.2.1, b0.1, b0.2.1, b0.2.2)) = .go ((a9, a5, a3, a4)) := (f9.symm.trans (by rw [show a6 = a2.length by omega, Nat.sub_self, k_49]))
 refine id (Post.thnN (sR ?_))
 refine R.ldX (cs := [.int .i64 a5, sl a7 a3 a8, sl b3 a4 b5]) (l := [.int .i64 a5, sl a7 a3 a8, sl b3 a4 b5]) isAgg27 sizeOf27 rfl rfl (.tl (.tl .hd)) rfl rfl ?_
 refine stY (l := [.int .i64 a5, sl a7 a3 a8, sl b3 a4 b5]) (new := [.int .i64 a5, sl a7 a3 a8, sl b3 a4 b5]) (.tl .hd) sizeOf27 rfl rfl ?_
 refine aA ?_
 refine nN (T.has (Has.cons (.tl (.tl (.tl .hd))) (Has.cons (.tl (.tl (.tl .hd))) (Has.cons (.tl .hd) Has.nil))) ?_)
 refine T.ret ?_
 have hM : k_5c a0 a1 = ((a5, a3, a4), 0) := by subst f6; rw [k_5c, if_neg e1, if_f c24, i3, LR.seq_go, LR.seq_go, hEl2, LR.on_go]
 exact finR2 (v := .agg #[.int .i64 a5, sl a7 a3 a8, sl b3 a4 b5]) (v' := .int .i64 0) [b7, b1] rfl (.cellA (cs := [.int .i64 a5, sl a7 a3 a8, sl b3 a4 b5]) (l := [.int .i64 a5, sl a7 a3 a8, sl b3 a4 b5]) isAgg27 sizeOf27 rfl (.tl (.tl .hd)) rfl rfl) (.tmp rfl) (List.sublist_append_left ([b7, b1] : Own) _) ⟨sl a7 a3 a8, sl b3 a4 b5, b7, b1, by first | rw [hM] | rfl, rfl, by rw [hM]; exact c6, by rw [hM]; exact c7⟩
end Go.SX
namespace Go.SX
open Go Go.Proofs Go.Proofs.Tryz
end Go.SX
namespace Go.SX
open Go
def entI (i g : Int) : Int := i + g * 4294967296
theorem packed_eq {g i : Int} (hg : 0 ≤ g ∧ g ≤ 7) (hi : 0 ≤ i ∧ i ≤ 1048578) : k_42 0 g i = entI i g := by
  unfold k_42 entI
  have := pack_eq (m := 0) (a := g) (b := i) (.inl rfl) (by omega) (by omega)
  rw [this]; unfold made; omega
theorem entity_ok {i g : Int} (hi : 1 ≤ i ∧ i ≤ 1048578) (hg : 0 ≤ g ∧ g ≤ 7) : k_56 i g = (entI i g, 0) := by
  unfold k_56
  rw [within1.2 hi, within1.2 hg, packed_eq hg ⟨by omega, hi.2⟩]; rfl
def noAl : Al := (0, [], [])
def lastF (a : Al) : Int := a.2.2.getD (a.2.2.length - 1) 0
def genAt (l : List Sl2) (i : Int) : Int := (l.getD (i - 1).toNat (0, false)).1
def takeP (a : Al) : Al × Int × Int :=
  if (aliveN a.2.1 : Int) - 2 = a.1 then (noAl, 0, 6)
  else if a.2.2.length = 0 then (if (a.2.1.length : Int) < a.1 + 2 then ((a.1, a.2.1 ++ [(0, true)], []), (a.2.1.length : Int) + 1, 0) else (noAl, 0, 121))
  else ((a.1, a.2.1.set (lastF a - 1).toNat (genAt a.2.1 (lastF a) + 1, true), a.2.2.take (a.2.2.length - 1)), entI (lastF a) (genAt a.2.1 (lastF a) + 1), 0)
theorem Rt.last {a : Al} (h : Rt a) (h0 : a.2.2.length ≠ 0) : ∃ (j : Nat) (g : Int), lastF a = (j : Int) + 1 ∧ a.2.1[j]? = some (g, false) ∧ 0 ≤ g ∧ g < 7 ∧ 2 ≤ j ∧ genAt a.2.1 (lastF a) = g := by
  have hm : lastF a ∈ a.2.2 := by
    unfold lastF
    exact List.mem_of_getElem? (k_46 (by omega))
  obtain ⟨j, s, h1, h2, h3⟩ := h.free.1 hm
  obtain ⟨g, b⟩ := s
  simp [useB] at h2
  obtain ⟨rfl, h4⟩ := h2
  have hg := h.g j _ h1
  refine ⟨j, g, h3, h1, hg.1, h4, ?_, ?_⟩
  · rcases Nat.lt_or_ge j 2 with h5 | h5
    · have := hg.2.2 h5; simp at this
    · exact h5
  · unfold genAt
    rw [h3, show (((j : Int) + 1) - 1).toNat = j by omega, List.getD_eq_getElem?_getD, h1]; rfl
theorem lastF_toNat (a : Al) : a.2.2.getD (((a.2.2.length : Int) - 1)).toNat 0 = lastF a := by
  unfold lastF
  rw [show (((a.2.2.length : Int) - 1)).toNat = a.2.2.length - 1 by omega]
theorem take_rt {a : Al} (h : Rt a) : k_47 a = takeP a := by
  have h1 := h.n2
  have h2 := h.m2
  have h3 := h.flen
  have h4 := h.n1
  have h5 := h.m1
  have hwm : IntKind.i64.wrap (a.1 + 2) = a.1 + 2 := wrap_i64 (by omega) (by omega)
  unfold k_47 takeP
  rw [(check_iff (by omega)).1.2 h, if_neg (by decide), many_eq (by omega)]
  simp only [LR.seq, alloc_own_eq, lastF_toNat, decide_eq_true_eq, hwm]
  by_cases c1 : (aliveN a.2.1 : Int) - 2 = a.1
  · rw [if_pos c1, if_pos c1]; rfl
  rw [if_neg c1, if_neg c1]
  by_cases c2 : a.2.2.length = 0
  · rw [if_neg (by omega), if_pos c2]
    by_cases c3 : (a.2.1.length : Int) < a.1 + 2
    · rw [if_neg (by omega), if_pos c3]
      simp only [LR.on]
      have h0 : a.2.2 = [] := List.length_eq_zero_iff.1 c2
      rw [show (((a.2.1.length : Int) + 1 - 1)).toNat = a.2.1.length by omega, List.getD_eq_getElem?_getD, List.getElem?_append_right (Nat.le_refl _), Nat.sub_self, h0]
      have := entity_ok (i := (a.2.1.length : Int) + 1) (g := 0) (by omega) (by omega)
      simp only [List.getElem?_cons_zero, Option.getD_some, this]
      unfold entI; simp
    · rw [if_pos (by omega), if_neg c3]; rfl
  · rw [if_pos (by omega), if_neg c2]
    simp only [LR.on]
    obtain ⟨j, g, e1, e2, e3, e4, e5, e6⟩ := h.last c2
    have hj := (List.getElem?_eq_some_iff.1 e2).1
    have hw : IntKind.i64.wrap ((a.2.1.getD (lastF a - 1).toNat ((0 : Int), false)).1 + 1) = genAt a.2.1 (lastF a) + 1 := by
      have : (a.2.1.getD (lastF a - 1).toNat ((0 : Int), false)).1 = g := e6
      rw [this, e6]; exact wrap_i64 (by omega) (by omega)
    rw [hw]
    have hset : (a.2.1.set (lastF a - 1).toNat (genAt a.2.1 (lastF a) + 1, true)).getD (lastF a - 1).toNat ((0 : Int), false) = (genAt a.2.1 (lastF a) + 1, true) := by
      rw [List.getD_eq_getElem?_getD, List.getElem?_set_self (by rw [e1]; omega)]; rfl
    rw [hset]
    have := entity_ok (i := lastF a) (g := genAt a.2.1 (lastF a) + 1) (by omega) (by omega)
    simp only [this]
    rw [show (((a.2.2.length : Int) - 1)).toNat = a.2.2.length - 1 by omega]
theorem take_not {a : Al} (hs : a.2.1.length ≤ 2000000) (h : ¬ Rt a) : k_47 a = (noAl, 0, 120) := by
  have h1 : k_27 a = 120 := by
    rcases (check_iff hs).2 with h2 | h2
    · exact absurd ((check_iff hs).1.1 h2) h
    · exact h2
  unfold k_47
  rw [h1, if_pos (by decide)]; rfl
theorem takeP_len {a : Al} (h : Rt a) : (takeP a).1.2.1.length ≤ 1100000 ∧ (takeP a).1.2.2.length ≤ 1100000 := by
  have h1 := h.n2
  have h2 := h.m2
  have h3 := h.flen
  unfold takeP
  split
  · simp [noAl]
  · split
    · split
      · simp only [List.length_append, List.length_cons, List.length_nil]; omega
      · simp [noAl]
    · simp only [List.length_set, List.length_take]; omega
theorem take_len {a : Al} (hs : a.2.1.length ≤ 2000000) : (k_47 a).1.2.1.length ≤ 1100000 ∧ (k_47 a).1.2.2.length ≤ 1100000 := by
  by_cases h : Rt a
  · rw [take_rt h]; exact takeP_len h
  · rw [take_not hs h]; simp [noAl]
end Go.SX
namespace Go.SX
open Go
theorem new_len (n : Int) : (k_8b n).1.2.1.length ≤ 2 ∧ (k_8b n).1.2.2.length ≤ 0 := by
  unfold k_8b
  simp only [LR.seq]
  repeat' split
  all_goals simp
def badAt (x : List Int) (k : Nat) : Bool := decide (x.getD k 0 ≤ 2) || (decide (0 < k) && decide (x.getD (k - 1) 0 = x.getD k 0))
abbrev GS := List Sl2 × Int × List Sl2 × List Int
def giveStep (i : Int) (s : GS) : GS := (s.1, s.2.1, s.2.2.1.set (i - 1).toNat (genAt s.2.2.1 i, false), if genAt s.2.2.1 i < 7 then s.2.2.2 ++ [i] else s.2.2.2)
theorem usable_f (g : Int) : k_72 (g, false) = decide (g < 7) := by unfold k_72; simp
theorem give_step (x : List Int) (m k : Nat) (s : GS) : k_49 x (m + 1) k s = if badAt (sortI x) k = true then .ret (noAl, 2) else k_49 x m (k + 1) (giveStep ((sortI x).getD k 0) s) := by
  rw [k_49]
  simp only [LR.seq, usable_f]
  have e : (((k : Int) - 1)).toNat = k - 1 := by omega
  have hb : (if (sortI x).getD k 0 ≤ 2 then true else if (0 : Int) < (k : Int) then decide ((sortI x).getD (((k : Int) - 1)).toNat 0 = (sortI x).getD k 0) else false) = badAt (sortI x) k := by
    unfold badAt
    rw [e]
    by_cases h1 : (sortI x).getD k 0 ≤ 2
    · rw [if_pos h1, decide_eq_true h1]; rfl
    · rw [if_neg h1, decide_eq_false h1, Bool.false_or]
      by_cases h2 : 0 < k
      · rw [if_pos (by omega), decide_eq_true h2, Bool.true_and]
      · rw [if_neg (by omega), decide_eq_false h2, Bool.false_and]
  rw [hb]
  cases badAt (sortI x) k with
  | true => rfl
  | false =>
    rw [if_neg Bool.false_ne_true, if_neg Bool.false_ne_true]
    unfold giveStep genAt
    by_cases h : (s.2.2.1.getD ((sortI x).getD k 0 - 1).toNat ((0 : Int), false)).1 < 7
    · rw [if_pos (decide_eq_true h), if_pos h]
    · rw [if_neg (by rw [decide_eq_false h]; exact Bool.false_ne_true), if_neg h]
theorem giveStep_len (i : Int) (s : GS) : (giveStep i s).2.2.1.length = s.2.2.1.length ∧ (giveStep i s).2.2.2.length ≤ s.2.2.2.length + 1 := by
  unfold giveStep
  refine ⟨by simp, ?_⟩
  simp only
  split <;> simp
theorem give_l2_len (x : List Int) (N : Nat) : ∀ (m k : Nat) (s : GS), s.2.2.1.length ≤ N → s.2.2.2.length + m ≤ N →
    (∀ r, k_49 x m k s = .ret r → r.1.2.1.length ≤ N ∧ r.1.2.2.length ≤ N) ∧ (∀ t, k_49 x m k s = .go t → t.2.2.1.length ≤ N ∧ t.2.2.2.length ≤ N)
  | 0, k, s, h1, h2 => by
    rw [k_49]
    exact ⟨fun r h => (by cases h), fun t h => (by cases h; exact ⟨h1, by simpa using h2⟩)⟩
  | m + 1, k, s, h1, h2 => by
    rw [give_step]
    have hl := giveStep_len ((sortI x).getD k 0) s
    cases badAt (sortI x) k with
    | true => rw [if_pos rfl]; exact ⟨fun r h => (by cases h; simp [noAl]), fun t h => (by cases h)⟩
    | false =>
      rw [if_neg (by decide)]
      exact give_l2_len x N m (k + 1) _ (by omega) (by omega)
theorem give_l1_len : ∀ (l : List Int) (acc : List Int), (k_64 l acc).length = acc.length + l.length
  | [], acc => by simp [k_64]
  | y :: ys, acc => by rw [k_64]; simp only [LR.seq]; rw [give_l1_len ys]; simp; omega
theorem give_len {a : Al} {l : List Int} (hs : a.2.1.length ≤ 2000000) (hf : a.2.2.length ≤ 2000000) (hl : l.length ≤ 100) : (k_5c a l).1.2.1.length ≤ 1100000 ∧ (k_5c a l).1.2.2.length ≤ 1100000 := by
  unfold k_5c
  simp only [alloc_own_eq]
  split
  · simp
  · rename_i h
    have hr := (check_iff hs).1.1 (by omega)
    have h1 := hr.n2
    have h2 := hr.m2
    have h3 := hr.flen
    split
    · simp
    · simp only [LR.seq]
      have h4 := give_l1_len l []
      have h5 := give_l2_len (k_64 l []) 1100000 ((k_64 l []).length - 0) 0 (a.2.1, a.1, a.2.1, a.2.2) (by show a.2.1.length ≤ _; omega) (by show a.2.2.length + _ ≤ _; simp only [List.length_nil] at h4; omega)
      cases h6 : k_49 (k_64 l []) ((k_64 l []).length - 0) 0 (a.2.1, a.1, a.2.1, a.2.2) with
      | ret r => exact h5.1 r h6
      | go t => exact h5.2 t h6
theorem all_r1_len : ∀ (l : List (Int × Sl2)) (acc : List Int), (k_97 l acc).length = acc.length + l.length
  | [], acc => by simp [k_97]
  | y :: ys, acc => by rw [k_97]; simp only [LR.seq]; rw [all_r1_len ys]; simp; omega
theorem all_len {a : Al} (hs : a.2.1.length ≤ 2000000) : (k_8d a).length ≤ 2000000 := by
  unfold k_8d
  split
  · simp
  · simp only [LR.seq]
    rw [all_r1_len]
    have := living_len a _ rfl
    simp only [List.length_nil]; omega
end Go.SX
namespace Go.SX
open Go
end Go.SX
namespace Go.SX
end Go.SX
namespace Go.SX
open Go
end Go.SX
namespace Go.SX
open Go
end Go.SX
namespace Go.SX
open Go
end Go.SX
namespace Go.SX
open Go Go.Proofs Go.Proofs.Tryz
def k_1a (a0 : Bool) : Bool :=
  if (!a0) = true then false else true
theorem k_5e (H : Heap) (a0 : Bool) : Fz Tryz.prog (fnv 126) [.bool a0] H [{ v := .iface 114 (.agg #[]), recovered := false }] (k_1a a0) := by
  refine Fz.of_body (N := 6) func126 rfl (by kernel_rfl) rfl rfl ?_
  intro w0
  refine T.seq ?_
  refine T.region ?_
  refine R.mvE rfl (by conv => lhs; whnf) ?_
  refine R.not rfl rfl ?_
  refine TL.nil (Post.thnN ?_)
  refine T.cond rfl (fun c3 => ?_) (fun c3 => ?_)
  · refine T.set 3 (.bool true) (congrArg Value.bool c3) ?_
    refine T.region ?_
    refine R.bld (cs := []) rfl (fun _ => by kernel_rfl) ?_
    refine R.mkI underlying114 rfl rfl ?_
    refine TL.panic rfl rfl ?_
    refine id ?_
    have hM : k_1a a0 = false := by rw [k_1a, if_t c3]
    exact finZP hM
  · refine T.set 3 (.bool false) (congrArg Value.bool c3) ?_
    refine T.skip ?_
    have hM : k_1a a0 = true := by rw [k_1a, if_f c3]
    exact finZN rfl hM
theorem need_eq (b : Bool) : k_1a b = b := by cases b <;> rfl
theorem need_t {b : Bool} (h : k_1a b = true) : b = true := by rw [need_eq] at h; exact h
def k_4e (a0 : ZS) (a1 : ZR) : List Int → Nat → Unit → LR (Bool) (Unit)
  | [], kl3, sl3 => .go ()
  | yl3 :: ysl3, kl3, sl3 => LR.seq (k_28 a0.2.2.1 a0.1 yl3) (fun r55 => LR.on (if r55.2 = 0 then (if (k_1a ((decide (((a1.2.2.getD kl3 ([] : List Int)).length : Int) = r55.1)))) = true then (.go ()) else (.ret (.ret false))) else (.ret (.ret false)) : LR (LR (Bool) (Unit)) (Unit)) (fun r => r) (fun sc4 => if ((kindG yl3) : Int) = 3 then (LR.seq (k_1 yl3) (fun r76 => LR.seq (k_1b a0 r76.2) (fun r82 => if r82.2 = true then (LR.seq (k_2e a0.2.2.1 a1.2.1 yl3) (fun r92 => if (k_1a ((decide ((r92.length : Int) = 0)))) = true then (k_4e a0 a1 ysl3 (kl3 + 1) ()) else (.ret false))) else (.ret false)))) else (k_4e a0 a1 ysl3 (kl3 + 1) ())))
def k_48 (a0 : ZS) (a1 : ZR) : Bool :=
  LR.on (if ((k_52 a1.2.1) : Int) = 0 then (if (k_1a ((decide ((a1.2.2.length : Int) = (a1.2.1.length : Int))))) = true then (.go ()) else (.ret false)) else (.ret false) : LR (Bool) (Unit)) (fun r => r) (fun sc1 => LR.on (if a1.1 ≠ 1 then (if a1.1 ≠ 2 then (.go ()) else (if (k_1a ((decide ((a1.2.1.length : Int) = 0)))) = true then (.go ()) else (.ret false))) else (if (k_1a ((decide ((a1.2.1.length : Int) = 0)))) = true then (.go ()) else (.ret false)) : LR (Bool) (Unit)) (fun r => r) (fun sc2 => LR.on (k_4e a0 a1 a1.2.1 0 ()) (fun r => r) (fun ol3 => true)))
theorem state_row_c (H : Heap) {tG0 : TypeId} (hG0 : gF H 0 tG0) (a0 : ZS) (va0_25 : Value) (ha0_25 : RdS slotE H va0_25 a0.2.1.2.1) (va0_26 : Value) (ha0_26 : RdS (intE .i64) H va0_26 a0.2.1.2.2) (va0_27 : Value) (ha0_27 : RdS relationE H va0_27 a0.2.2.1) (va0_28 : Value) (ha0_28 : RdS rowE H va0_28 a0.2.2.2) (a1 : ZR) (va1_1 : Value) (ha1_1 : RdS (intE .u64) H va1_1 a1.2.1) (va1_2 : Value) (ha1_2 : RdS (slE (intE .u64)) H va1_2 a1.2.2) (hS : StS a0) (hR : RowS a1) : Fz Tryz.prog (fnv 129) [.agg (c24 a0.1 [.int .i64 a0.2.1.1, va0_25, va0_26, va0_27, va0_28]).toArray, .agg #[.int .i64 a1.1, va1_1, va1_2]] H [{ v := .iface 114 (.agg #[]), recovered := false }] (k_48 a0 a1) := by
  refine Fz.of_body (N := 98) func129 rfl (by kernel_rfl) rfl rfl ?_
  intro w0
  obtain ⟨Aa0_25, ca0_25, rfl, hca0_25, hda0_25, ha0_25⟩ := ha0_25.shape
  obtain ⟨Aa0_26, ca0_26, rfl, hca0_26, hda0_26, ha0_26⟩ := ha0_26.shape
  obtain ⟨Aa0_27, ca0_27, rfl, hca0_27, hda0_27, ha0_27⟩ := ha0_27.shape
  obtain ⟨Aa0_28, ca0_28, rfl, hca0_28, hda0_28, ha0_28⟩ := ha0_28.shape
  obtain ⟨Aa1_1, ca1_1, rfl, hca1_1, hda1_1, ha1_1⟩ := ha1_1.shape
  obtain ⟨Aa1_2, ca1_2, rfl, hca1_2, hda1_2, ha1_2⟩ := ha1_2.shape
  have hs5 := hS.ids
  have hs1 := hS.slots
  have hs2 := hS.free
  have hs3 := hS.rels
  have hs4 := hS.rows
  have hr1 := hR.t
  have hr2 := hR.v
  refine T.seq ?_
  refine T.region ?_
  refine R.box rfl (by conv => lhs; whnf) ?_
  intro b2
  refine R.box rfl (by conv => lhs; whnf) ?_
  intro b3
  refine TL.shut .hd ?_
  intro Hb3_1 sb3_1 qb3_1
  have hb3_1 : Hb3_1 b3 = some (.cells #[.int .i64 (a1.1), .slice Aa1_1 a1.2.1.length ca1_1, .slice Aa1_2 a1.2.2.length ca1_2] 47) := shut1 qb3_1
  refine TL.shut .hd ?_
  intro Hb2_2 sb2_2 qb2_2
  have hb2_2 : Hb2_2 b2 = some (.cells (c24 a0.1 [.int .i64 (a0.2.1.1), .slice Aa0_25 a0.2.1.2.1.length ca0_25, .slice Aa0_26 a0.2.1.2.2.length ca0_26, .slice Aa0_27 a0.2.2.1.length ca0_27, .slice Aa0_28 a0.2.2.2.length ca0_28]).toArray 31) := shut1 qb2_2
  refine TL.nil (Post.thnN ?_)
  refine T.seq ?_
  refine T.cutK (ι := Unit) (fun _ H' L' ds' => Has L' [] ∧ a1.2.2.length = a1.2.1.length ∧ (if ((k_52 a1.2.1) : Int) = 0 then (if (k_1a ((decide ((a1.2.2.length : Int) = (a1.2.1.length : Int))))) = true then (.go ()) else (.ret false)) else (.ret false) : LR (Bool) (Unit)) = .go ()) (fun _ => [(2, .pointer (some ⟨b2, 0, none⟩)), (3, .pointer (some ⟨b3, 0, none⟩))]) ?_ ?_
  · refine T.region ?_
    refine fA underlying47 rfl sizeOf44 ?_
    refine R.ldH isAgg44 rfl rfl (sb2_2 _ _ hb3_1) rfl ?_
    refine R.callv rfl rfl rfl (types_Check_c _ _ a1.2.1 (ha1_1.mono (sb3_1.trans sb2_2))) ?_
    refine R.eql rfl rfl rfl ?_
    refine R.mvE rfl (by conv => lhs; whnf) ?_
    refine TL.gsplitD 16 rfl (fun g16 => ?_) (fun g16 => ?_)
    · refine fA underlying47 rfl sizeOf45 ?_
      refine R.ldH isAgg45 rfl rfl (sb2_2 _ _ hb3_1) rfl ?_
      refine R.len underlying45 rfl rfl ?_
      refine fA underlying47 rfl sizeOf44 ?_
      refine R.ldH isAgg44 rfl rfl (sb2_2 _ _ hb3_1) rfl ?_
      refine R.len underlying44 rfl rfl ?_
      refine R.eql rfl rfl rfl ?_
      refine R.pkTE rfl rfl (by conv => lhs; whnf) ?_
      refine TL.callz (ok := (k_1a ((decide ((a1.2.2.length : Int) = (a1.2.1.length : Int)))))) rfl rfl rfl (k_5e _ ((decide ((a1.2.2.length : Int) = (a1.2.1.length : Int))))) ?_ ?_
      · intro cp64 Hp64 sp64
        have dp64 := need_t cp64
        try simp only [decide_eq_true_eq] at dp64
        refine TL.nil (Post.thnN ?_)
        exact ⟨(), sp64, ⟨Has.nil, (by first | omega | (simp; done) | (simp; omega) | (simp at *; omega)), (by rw [if_pos g16, if_t cp64])⟩, rfl, rfl, trivial⟩
      · intro cp64 Hp64 sp64
        refine id (Post.thnP ?_)
        have hM : k_48 a0 a1 = false := by rw [k_48, if_pos g16, if_f cp64, LR.on_ret]
        exact finZP hM
    · refine oF ?_
      refine oF ?_
      refine oF ?_
      refine oF ?_
      refine oF ?_
      refine oF ?_
      refine oF ?_
      refine R.pkFE rfl rfl (by conv => lhs; whnf) ?_
      refine TL.callz (ok := (k_1a false)) rfl rfl rfl (k_5e _ (false)) ?_ ?_
      · intro cp65 Hp65 sp65
        exact absurd cp65 (by decide)
      · intro cp65 Hp65 sp65
        refine id (Post.thnP ?_)
        have hM : k_48 a0 a1 = false := by rw [k_48, if_neg g16, LR.on_ret]
        exact finZP hM
  · intro _ σ_c1 H_c1 L_c1 ds_c1 s_c1 hI_c1
    obtain ⟨hLc1, hBc1_0, hTc1⟩ := hI_c1
    refine T.has hLc1 ?_
    refine T.seq ?_
    refine T.cutK (ι := Unit) (fun _ H' L' ds' => Has L' [] ∧ (if a1.1 ≠ 1 then (if a1.1 ≠ 2 then (.go ()) else (if (k_1a ((decide ((a1.2.1.length : Int) = 0)))) = true then (.go ()) else (.ret false))) else (if (k_1a ((decide ((a1.2.1.length : Int) = 0)))) = true then (.go ()) else (.ret false)) : LR (Bool) (Unit)) = .go ()) (fun _ => [(2, .pointer (some ⟨b2, 0, none⟩)), (3, .pointer (some ⟨b3, 0, none⟩))]) ?_ ?_
    · refine T.region ?_
      refine fA underlying47 rfl sizeOf3 ?_
      refine R.ldH isAgg3 rfl rfl ((sb2_2.trans s_c1) _ _ hb3_1) rfl ?_
      refine R.neq rfl rfl rfl ?_
      refine R.mvE rfl (by conv => lhs; whnf) ?_
      refine TL.gsplitD 29 rfl (fun g29 => ?_) (fun g29 => ?_)
      · refine fA underlying47 rfl sizeOf3 ?_
        refine R.ldH isAgg3 rfl rfl ((sb2_2.trans s_c1) _ _ hb3_1) rfl ?_
        refine R.neq rfl rfl rfl ?_
        refine R.pkTE rfl rfl (by conv => lhs; whnf) ?_
        refine R.mvE rfl (by conv => lhs; whnf) ?_
        refine TL.gsplitD 34 rfl (fun g34 => ?_) (fun g34 => ?_)
        · refine oF ?_
          refine oF ?_
          refine oF ?_
          refine oF ?_
          refine R.pkTE rfl rfl (by conv => lhs; whnf) ?_
          refine TL.callz (ok := (k_1a true)) rfl rfl rfl (k_5e _ (true)) ?_ ?_
          · intro cp66 Hp66 sp66
            have dp66 := need_t cp66
            try simp only [decide_eq_true_eq] at dp66
            refine TL.nil (Post.thnN ?_)
            exact ⟨(), sp66, ⟨Has.nil, (by rw [if_pos g29, if_pos g34])⟩, rfl, rfl, trivial⟩
          · intro cp66 Hp66 sp66
            exact absurd cp66 (by decide)
        · refine fA underlying47 rfl sizeOf44 ?_
          refine R.ldH isAgg44 rfl rfl ((sb2_2.trans s_c1) _ _ hb3_1) rfl ?_
          refine R.len underlying44 rfl rfl ?_
          refine R.eql rfl rfl rfl ?_
          refine R.pkFE rfl rfl (by conv => lhs; whnf) ?_
          refine TL.callz (ok := (k_1a ((decide ((a1.2.1.length : Int) = 0))))) rfl rfl rfl (k_5e _ ((decide ((a1.2.1.length : Int) = 0)))) ?_ ?_
          · intro cp67 Hp67 sp67
            have dp67 := need_t cp67
            try simp only [decide_eq_true_eq] at dp67
            refine TL.nil (Post.thnN ?_)
            exact ⟨(), sp67, ⟨Has.nil, (by rw [if_pos g29, if_neg g34, if_t cp67])⟩, rfl, rfl, trivial⟩
          · intro cp67 Hp67 sp67
            refine id (Post.thnP ?_)
            have hM : k_48 a0 a1 = false := by rw [k_48, hTc1, LR.on_go, if_pos g29, if_neg g34, if_f cp67, LR.on_ret]
            exact finZP hM
      · refine oF ?_
        refine oF ?_
        refine oF ?_
        refine R.pkFE rfl rfl (by conv => lhs; whnf) ?_
        refine R.mvE rfl (by conv => lhs; whnf) ?_
        refine fA underlying47 rfl sizeOf44 ?_
        refine R.ldH isAgg44 rfl rfl ((sb2_2.trans s_c1) _ _ hb3_1) rfl ?_
        refine R.len underlying44 rfl rfl ?_
        refine R.eql rfl rfl rfl ?_
        refine R.pkFE rfl rfl (by conv => lhs; whnf) ?_
        refine TL.callz (ok := (k_1a ((decide ((a1.2.1.length : Int) = 0))))) rfl rfl rfl (k_5e _ ((decide ((a1.2.1.length : Int) = 0)))) ?_ ?_
        · intro cp68 Hp68 sp68
          have dp68 := need_t cp68
          try simp only [decide_eq_true_eq] at dp68
          refine TL.nil (Post.thnN ?_)
          exact ⟨(), sp68, ⟨Has.nil, (by rw [if_neg g29, if_t cp68])⟩, rfl, rfl, trivial⟩
        · intro cp68 Hp68 sp68
          refine id (Post.thnP ?_)
          have hM : k_48 a0 a1 = false := by rw [k_48, hTc1, LR.on_go, if_neg g29, if_f cp68, LR.on_ret]
          exact finZP hM
    · intro _ σ_c2 H_c2 L_c2 ds_c2 s_c2 hI_c2
      obtain ⟨hLc2, hTc2⟩ := hI_c2
      refine T.has hLc2 ?_
      refine T.seq ?_
      refine T.region ?_
      refine fA underlying47 rfl sizeOf44 ?_
      refine R.ldH isAgg44 rfl rfl ((sb2_2.trans (s_c1.trans s_c2)) _ _ hb3_1) rfl ?_
      refine R.len underlying44 rfl rfl ?_
      refine R.mvE rfl (by conv => lhs; whnf) ?_
      refine TL.nil (Post.thnN ?_)
      refine T.block ?_
      refine T.loop (ι := Nat) (fun kl3 H' L' ds' => kl3 ≤ a1.2.1.length ∧ Has L' [] ∧ k_4e a0 a1 (a1.2.1.drop kl3) kl3 () = k_4e a0 a1 a1.2.1 0 ()) (fun kl3 => [(44, .int .i64 (kl3 : Int)), (2, .pointer (some ⟨b2, 0, none⟩)), (3, .pointer (some ⟨b3, 0, none⟩)), (42, .slice Aa1_1 a1.2.1.length ca1_1), (43, .int .i64 (a1.2.1.length : Int))]) (fun kl3 => a1.2.1.length - kl3) 0 ?_ ?_ ?_
      · exact ⟨(by omega), Has.nil, (by rfl)⟩
      · exact ⟨rfl, rfl, rfl, rfl, rfl, trivial⟩
      · intro kl3 σ_l3 H_l3 L_l3 ds_l3 s_l3 hI_l3
        obtain ⟨hkl3, hI_l3⟩ := hI_l3
        obtain ⟨hLl3, hQl3⟩ := hI_l3
        refine T.has hLl3 ?_
        refine T.seq ?_
        refine T.region ?_
        refine R.lss rfl rfl rfl ?_
        refine TL.nil (Post.thnN ?_)
        refine T.seq ?_
        refine T.condD rfl (fun c45 => ?_) (fun c45 => ?_)
        · have hltl3 : kl3 < a1.2.1.length := by omega
          obtain ⟨yl3, hyl3⟩ := getk (xs := a1.2.1) (k := kl3) (by omega)
          refine T.skip (Post.thnN ?_)
          refine T.seq ?_
          refine T.block ?_
          refine T.seq ?_
          refine T.region ?_
          refine R.mvE rfl (by conv => lhs; whnf) ?_
          obtain ⟨b47, o47, i47, k47⟩ := RdS.elem (ha1_1.mono (sb3_1.trans (sb2_2.trans (s_c1.trans (s_c2.trans s_l3))))) hyl3
          obtain ⟨l47, g47, k47⟩ := k47
          obtain rfl : l47 = [.int .u64 yl3] := g47
          refine R.ixp underlying44 sizeOf39 rfl rfl rfl (by omega) i47 ?_
          refine R.ldC isAgg39 rfl rfl (k47 0 _ rfl) ?_
          refine R.asE rfl (by conv => lhs; whnf) ?_
          refine R.asE rfl (by conv => lhs; whnf) ?_
          refine TL.nil (Post.thnN ?_)
          refine T.seq ?_
          refine T.region ?_
          refine fA underlying31 rfl sizeOf28 ?_
          refine R.ldH isAgg28 rfl rfl ((s_c1.trans (s_c2.trans s_l3)) _ _ hb2_2) rfl ?_
          refine fA underlying31 rfl sizeOf23 ?_
          refine R.ldXH (cs := (c24 a0.1 [.int .i64 (a0.2.1.1), .slice Aa0_25 a0.2.1.2.1.length ca0_25, .slice Aa0_26 a0.2.1.2.2.length ca0_26, .slice Aa0_27 a0.2.2.1.length ca0_27, .slice Aa0_28 a0.2.2.2.length ca0_28])) (l := (c24 a0.1 [])) isAgg23 sizeOf23 rfl rfl ((s_c1.trans (s_c2.trans s_l3)) _ _ hb2_2) rfl rfl ?_
          refine R.mvE rfl (by conv => lhs; whnf) ?_
          obtain ⟨r55, er55⟩ : ∃ r, r = (k_28 a0.2.2.1 a0.1 yl3) := ⟨_, rfl⟩
          refine R.callv (v := .tuple #[.int .i64 r55.1, .int .i64 r55.2]) rfl rfl rfl (by rw [er55]; exact trait_Width_c _ ((sb3_1.trans (sb2_2.trans (s_c1.trans (s_c2.trans s_l3)))) _ _ hG0) _ a0.2.2.1 (ha0_27.mono (sb3_1.trans (sb2_2.trans (s_c1.trans (s_c2.trans s_l3))))) a0.1 (yl3) (by first | omega | (simp; done) | (simp; omega) | (simp at *; omega))) ?_
          refine R.mvE rfl (by conv => lhs; whnf) ?_
          refine R.ext rfl rfl rfl ?_
          refine R.ext rfl rfl rfl ?_
          refine R.asE rfl (by conv => lhs; whnf) ?_
          refine R.asE rfl (by conv => lhs; whnf) ?_
          refine TL.nil (Post.thnN ?_)
          refine T.seq ?_
          refine T.cutK (ι := Unit) (fun _ H' L' ds' => Has L' [] ∧ (if r55.2 = 0 then (if (k_1a ((decide (((a1.2.2.getD kl3 ([] : List Int)).length : Int) = r55.1)))) = true then (.go ()) else (.ret (.ret false))) else (.ret (.ret false)) : LR (LR (Bool) (Unit)) (Unit)) = .go ()) (fun _ => [(2, .pointer (some ⟨b2, 0, none⟩)), (3, .pointer (some ⟨b3, 0, none⟩)), (5, .int .u64 yl3), (42, .slice Aa1_1 a1.2.1.length ca1_1), (43, .int .i64 (a1.2.1.length : Int)), (44, .int .i64 (kl3 : Int))]) ?_ ?_
          · refine T.region ?_
            refine R.mvE rfl (by conv => lhs; whnf) ?_
            refine R.eql rfl rfl rfl ?_
            refine R.mvE rfl (by conv => lhs; whnf) ?_
            refine TL.gsplitD 60 rfl (fun g60 => ?_) (fun g60 => ?_)
            · refine fA underlying47 rfl sizeOf45 ?_
              refine R.ldH isAgg45 rfl rfl ((sb2_2.trans (s_c1.trans (s_c2.trans s_l3))) _ _ hb3_1) rfl ?_
              refine R.mvE rfl (by conv => lhs; whnf) ?_
              have hl64 : kl3 < a1.2.2.length := by first | omega | (simp; done) | (simp; omega) | (simp at *; omega)
              obtain ⟨y64, e64, h64⟩ : ∃ y, y = (a1.2.2.getD kl3 ([] : List Int)) ∧ a1.2.2[kl3]? = some y := ⟨_, rfl, k_46 (by first | exact hl64 | simpa using hl64 | (simp only [List.length_set]; omega) | omega | (rw [(k_26 _).length_eq]; exact hl64))⟩
              obtain ⟨b64, o64, i64, k64⟩ := RdS.elem (ha1_2.mono (sb3_1.trans (sb2_2.trans (s_c1.trans (s_c2.trans s_l3))))) h64
              obtain ⟨l64, g64, k64⟩ := k64
              obtain ⟨z64_0, rfl, r64_0⟩ := g64
              obtain ⟨A64_0, p64_0, rfl, m64_0, n64_0, r64_0⟩ := r64_0.shape
              refine R.ixp underlying45 sizeOf64 rfl rfl rfl (by first | omega | (simp; done) | (simp; omega) | (simp at *; omega)) i64 ?_
              refine R.ldC isAgg64 rfl rfl (k64 0 _ rfl) ?_
              refine R.len underlying64 rfl rfl ?_
              refine R.mvE rfl (by conv => lhs; whnf) ?_
              refine R.eql rfl rfl rfl ?_
              refine R.pkTE rfl rfl (by conv => lhs; whnf) ?_
              refine TL.callz (ok := (k_1a ((decide ((y64.length : Int) = r55.1))))) rfl rfl rfl (k_5e _ ((decide ((y64.length : Int) = r55.1)))) ?_ ?_
              · intro cp69 Hp69 sp69
                have dp69 := need_t cp69
                try simp only [decide_eq_true_eq] at dp69
                refine TL.nil (Post.thnN ?_)
                exact ⟨(), sp69, ⟨Has.nil, (by subst e64; rw [if_pos g60, if_t cp69])⟩, rfl, rfl, rfl, rfl, rfl, rfl, trivial⟩
              · intro cp69 Hp69 sp69
                refine id (Post.thnP (Post.blkP (Post.thnP (Post.thnP (Post.blkP ?_)))))
                have hXl3 : k_4e a0 a1 a1.2.1 0 () = .ret false := by subst e64; subst er55; rw [← hQl3, k_8 hyl3, k_4e]; rw [LR.seq_go, if_pos g60, if_f cp69, LR.on_ret]
                have hM : k_48 a0 a1 = false := by rw [k_48, hTc1, LR.on_go, hTc2, LR.on_go, hXl3, LR.on_ret]
                exact finZP hM
            · refine oF ?_
              refine oF ?_
              refine oF ?_
              refine oF ?_
              refine oF ?_
              refine oF ?_
              refine oF ?_
              refine oF ?_
              refine R.pkFE rfl rfl (by conv => lhs; whnf) ?_
              refine TL.callz (ok := (k_1a false)) rfl rfl rfl (k_5e _ (false)) ?_ ?_
              · intro cp70 Hp70 sp70
                exact absurd cp70 (by decide)
              · intro cp70 Hp70 sp70
                refine id (Post.thnP (Post.blkP (Post.thnP (Post.thnP (Post.blkP ?_)))))
                have hXl3 : k_4e a0 a1 a1.2.1 0 () = .ret false := by subst er55; rw [← hQl3, k_8 hyl3, k_4e]; rw [LR.seq_go, if_neg g60, LR.on_ret]
                have hM : k_48 a0 a1 = false := by rw [k_48, hTc1, LR.on_go, hTc2, LR.on_go, hXl3, LR.on_ret]
                exact finZP hM
          · intro _ σ_c4 H_c4 L_c4 ds_c4 s_c4 hI_c4
            obtain ⟨hLc4, hTc4⟩ := hI_c4
            refine T.has hLc4 ?_
            refine T.seq ?_
            refine T.region ?_
            refine R.mvE rfl (by conv => lhs; whnf) ?_
            refine R.callv rfl rfl rfl (kindG_c _ yl3) ?_
            refine R.eql rfl rfl rfl ?_
            refine TL.nil (Post.thnN ?_)
            refine T.condD rfl (fun c73 => ?_) (fun c73 => ?_)
            · refine T.set 73 (.bool true) (congrArg Value.bool (decide_eq_true c73)) ?_
              refine T.seq ?_
              refine T.region ?_
              refine R.mvE rfl (by conv => lhs; whnf) ?_
              obtain ⟨r76, er76⟩ : ∃ r, r = (k_1 yl3) := ⟨_, rfl⟩
              refine R.callv (v := .tuple #[.int .i64 r76.1, .int .i64 r76.2]) rfl rfl rfl (by rw [er76]; exact k_57 _ (yl3)) ?_
              refine R.mvE rfl (by conv => lhs; whnf) ?_
              refine R.ext rfl rfl rfl ?_
              refine R.ext rfl rfl rfl ?_
              refine R.asE rfl (by conv => lhs; whnf) ?_
              refine R.asE rfl (by conv => lhs; whnf) ?_
              refine TL.nil (Post.thnN ?_)
              refine T.seq ?_
              refine T.region ?_
              refine R.ldXH (cs := (c24 a0.1 [.int .i64 (a0.2.1.1), .slice Aa0_25 a0.2.1.2.1.length ca0_25, .slice Aa0_26 a0.2.1.2.2.length ca0_26, .slice Aa0_27 a0.2.2.1.length ca0_27, .slice Aa0_28 a0.2.2.2.length ca0_28])) (l := (c24 a0.1 [.int .i64 (a0.2.1.1), .slice Aa0_25 a0.2.1.2.1.length ca0_25, .slice Aa0_26 a0.2.1.2.2.length ca0_26, .slice Aa0_27 a0.2.2.1.length ca0_27, .slice Aa0_28 a0.2.2.2.length ca0_28])) isAgg31 sizeOf31 rfl rfl ((s_c1.trans (s_c2.trans (s_l3.trans s_c4))) _ _ hb2_2) rfl rfl ?_
              refine R.mvE rfl (by conv => lhs; whnf) ?_
              obtain ⟨r82, er82⟩ : ∃ r, r = (k_1b a0 r76.2) := ⟨_, rfl⟩
              refine R.callv (v := .tuple #[.int .i64 r82.1, .bool r82.2]) rfl rfl rfl (by rw [er82]; exact state_find_c _ a0 _ (ha0_25.mono (sb3_1.trans (sb2_2.trans (s_c1.trans (s_c2.trans (s_l3.trans s_c4)))))) _ (ha0_26.mono (sb3_1.trans (sb2_2.trans (s_c1.trans (s_c2.trans (s_l3.trans s_c4)))))) _ (ha0_27.mono (sb3_1.trans (sb2_2.trans (s_c1.trans (s_c2.trans (s_l3.trans s_c4)))))) _ (ha0_28.mono (sb3_1.trans (sb2_2.trans (s_c1.trans (s_c2.trans (s_l3.trans s_c4)))))) (r76.2) (by first | omega | (simp; done) | (simp; omega) | (simp at *; omega))) ?_
              refine R.mvE rfl (by conv => lhs; whnf) ?_
              refine R.ext rfl rfl rfl ?_
              refine R.ext rfl rfl rfl ?_
              refine R.asE rfl (by conv => lhs; whnf) ?_
              refine R.asE rfl (by conv => lhs; whnf) ?_
              refine TL.nil (Post.thnN ?_)
              refine T.region ?_
              refine R.mvE rfl (by conv => lhs; whnf) ?_
              refine R.mvE rfl (by conv => lhs; whnf) ?_
              refine TL.gsplit 86 rfl (fun g86 => ?_) (fun g86 => ?_)
              · refine fA underlying31 rfl sizeOf28 ?_
                refine R.ldH isAgg28 rfl rfl ((s_c1.trans (s_c2.trans (s_l3.trans s_c4))) _ _ hb2_2) rfl ?_
                refine fA underlying47 rfl sizeOf44 ?_
                refine R.ldH isAgg44 rfl rfl ((sb2_2.trans (s_c1.trans (s_c2.trans (s_l3.trans s_c4)))) _ _ hb3_1) rfl ?_
                refine R.mvE rfl (by conv => lhs; whnf) ?_
                obtain ⟨r92, er92⟩ : ∃ r, r = (k_2e a0.2.2.1 a1.2.1 yl3) := ⟨_, rfl⟩
                refine TL.call [] rfl rfl rfl (trait_Replaced_c _ ((sb3_1.trans (sb2_2.trans (s_c1.trans (s_c2.trans (s_l3.trans s_c4))))) _ _ hG0) _ a0.2.2.1 (ha0_27.mono (sb3_1.trans (sb2_2.trans (s_c1.trans (s_c2.trans (s_l3.trans s_c4)))))) _ a1.2.1 (ha1_1.mono (sb3_1.trans (sb2_2.trans (s_c1.trans (s_c2.trans (s_l3.trans s_c4)))))) (yl3) (by first | omega | (simp; done) | (simp; omega) | (simp at *; omega)) (by first | omega | (simp; done) | (simp; omega) | (simp at *; omega))) ?_
                intro v92 H92 L92 s92 q92
                rw [← er92] at q92
                obtain ⟨u92_0_0, c92_0_0, rfl, rfl, w92_0_0⟩ := q92
                obtain ⟨A92_0_0, p92_0_0, rfl, m92_0_0, n92_0_0⟩ := OwnS.shape w92_0_0
                have tR92 := repl_len _ _ _ _ er92
                refine R.len underlying44 rfl rfl ?_
                refine R.eql rfl rfl rfl ?_
                refine R.pkTE rfl rfl (by conv => lhs; whnf) ?_
                refine TL.callz (ok := (k_1a ((decide ((r92.length : Int) = 0))))) rfl rfl rfl (k_5e _ ((decide ((r92.length : Int) = 0)))) ?_ ?_
                · intro cp71 Hp71 sp71
                  have dp71 := need_t cp71
                  try simp only [decide_eq_true_eq] at dp71
                  refine TL.nil (Post.blkN ?_)
                  refine id (Post.thnN ?_)
                  refine T.region ?_
                  refine R.addI rfl rfl rfl (by omega) ?_
                  refine R.mvE rfl (by conv => lhs; whnf) ?_
                  refine TL.nil (Post.thnN ?_)
                  exact ⟨kl3 + 1, (s_l3.trans (s_c4.trans (s92.trans sp71))), ⟨(by omega), Has.nil, (by subst er92; subst er82; subst er76; subst er55; rw [← hQl3, k_8 hyl3, k_4e]; rw [LR.seq_go, hTc4, LR.on_go, if_pos c73, LR.seq_go, LR.seq_go, if_t g86, LR.seq_go, if_t cp71])⟩, by show a1.2.1.length - (kl3 + 1) < a1.2.1.length - kl3; omega, rfl, rfl, rfl, rfl, rfl, trivial⟩
                · intro cp71 Hp71 sp71
                  refine id (Post.blkP (Post.thnP (Post.thnP (Post.blkP ?_))))
                  have hXl3 : k_4e a0 a1 a1.2.1 0 () = .ret false := by subst er92; subst er82; subst er76; subst er55; rw [← hQl3, k_8 hyl3, k_4e]; rw [LR.seq_go, hTc4, LR.on_go, if_pos c73, LR.seq_go, LR.seq_go, if_t g86, LR.seq_go, if_f cp71]
                  have hM : k_48 a0 a1 = false := by rw [k_48, hTc1, LR.on_go, hTc2, LR.on_go, hXl3, LR.on_ret]
                  exact finZP hM
              · refine oF ?_
                refine oF ?_
                refine oF ?_
                refine oF ?_
                refine oF ?_
                refine oF ?_
                refine oF ?_
                refine oF ?_
                refine R.pkFE rfl rfl (by conv => lhs; whnf) ?_
                refine TL.callz (ok := (k_1a false)) rfl rfl rfl (k_5e _ (false)) ?_ ?_
                · intro cp72 Hp72 sp72
                  exact absurd cp72 (by decide)
                · intro cp72 Hp72 sp72
                  refine id (Post.blkP (Post.thnP (Post.thnP (Post.blkP ?_))))
                  have hXl3 : k_4e a0 a1 a1.2.1 0 () = .ret false := by subst er82; subst er76; subst er55; rw [← hQl3, k_8 hyl3, k_4e]; rw [LR.seq_go, hTc4, LR.on_go, if_pos c73, LR.seq_go, LR.seq_go, if_f g86]
                  have hM : k_48 a0 a1 = false := by rw [k_48, hTc1, LR.on_go, hTc2, LR.on_go, hXl3, LR.on_ret]
                  exact finZP hM
            · refine T.set 73 (.bool false) (congrArg Value.bool (decide_eq_false c73)) ?_
              refine T.skip (Post.blkN ?_)
              refine id (Post.thnN ?_)
              refine T.region ?_
              refine R.addI rfl rfl rfl (by omega) ?_
              refine R.mvE rfl (by conv => lhs; whnf) ?_
              refine TL.nil (Post.thnN ?_)
              exact ⟨kl3 + 1, (s_l3.trans s_c4), ⟨(by omega), Has.nil, (by subst er55; rw [← hQl3, k_8 hyl3, k_4e]; rw [LR.seq_go, hTc4, LR.on_go, if_neg c73])⟩, by show a1.2.1.length - (kl3 + 1) < a1.2.1.length - kl3; omega, rfl, rfl, rfl, rfl, rfl, trivial⟩
        · refine T.exit (Post.thnE (Post.thnE (Post.blkX ?_)))
          have hEl3 : k_4e a0 a1 a1.2.1 0 () = .go () := (hQl3.symm.trans (by rw [show kl3 = a1.2.1.length by omega, List.drop_length, k_4e]))
          refine id ?_
          have hM : k_48 a0 a1 = true := by rw [k_48, hTc1, LR.on_go, hTc2, LR.on_go, hEl3, LR.on_go]
          exact finZN rfl hM
def k_4a (a0 : ZS) : List (ZL) → Unit → LR (Bool) (Unit)
  | [], sl4 => .go ()
  | yl4 :: ysl4, sl4 => LR.seq (k_1b a0 yl4.1) (fun r84 => if r84.2 = true then (if (!yl4.2.1) = true then (k_4a a0 ysl4 ()) else (LR.seq (k_3c a0 yl4.1) (fun r97 => if (k_1a ((!(roundR r97)))) = true then (k_4a a0 ysl4 ()) else (.ret false)))) else (.ret false))
def k_77 (a0 : ZS) : List (ZR) → Unit → LR (Bool) (Unit)
  | [], sl3 => .go ()
  | yl3 :: ysl3, sl3 => if (k_48 a0 yl3) = true then (k_77 a0 ysl3 ()) else (.ret false)
def k_78 (r32 : (List Int)) : List (ZR) → Nat → Unit → LR (Bool) (Unit)
  | [], kl2, sl2 => .go ()
  | yl2 :: ysl2, kl2, sl2 => LR.seq (k_1 (r32.getD kl2 (0 : Int))) (fun r53 => if (k_1a ((decide (yl2.1 = r53.1)))) = true then (k_78 r32 ysl2 (kl2 + 1) ()) else (.ret false))
def k_3b (a0 : ZS) : Bool :=
  LR.on (if ((k_98 a0.1) : Int) = 0 then (if ((k_27 a0.2.1) : Int) = 0 then (if (k_1a ((decide (((k_35 a0.2.2.1) : Int) = 0)))) = true then (.go ()) else (.ret false)) else (.ret false)) else (.ret false) : LR (Bool) (Unit)) (fun r => r) (fun sc1 => LR.seq (k_8d a0.2.1) (fun r32 => if (k_1a ((decide ((r32.length : Int) = (a0.2.2.2.length : Int))))) = true then (LR.on (k_78 r32 a0.2.2.2 0 ()) (fun r => r) (fun ol2 => LR.on (k_77 a0 a0.2.2.2 ()) (fun r => r) (fun ol3 => LR.on (k_4a a0 a0.2.2.1 ()) (fun r => r) (fun ol4 => true)))) else false))
theorem state_look_c (H : Heap) {tG0 : TypeId} (hG0 : gF H 0 tG0) {tG1 : TypeId} (hG1 : gA H 1 tG1) (a0 : ZS) (va0_25 : Value) (ha0_25 : RdS slotE H va0_25 a0.2.1.2.1) (va0_26 : Value) (ha0_26 : RdS (intE .i64) H va0_26 a0.2.1.2.2) (va0_27 : Value) (ha0_27 : RdS relationE H va0_27 a0.2.2.1) (va0_28 : Value) (ha0_28 : RdS rowE H va0_28 a0.2.2.2) (hS : StS a0) : Fz Tryz.prog (fnv 54) [.agg (c24 a0.1 [.int .i64 a0.2.1.1, va0_25, va0_26, va0_27, va0_28]).toArray] H [{ v := .iface 114 (.agg #[]), recovered := false }] (k_3b a0) := by
  refine Fz.of_body (N := 104) func54 rfl (by kernel_rfl) rfl rfl ?_
  intro w0
  obtain ⟨Aa0_25, ca0_25, rfl, hca0_25, hda0_25, ha0_25⟩ := ha0_25.shape
  obtain ⟨Aa0_26, ca0_26, rfl, hca0_26, hda0_26, ha0_26⟩ := ha0_26.shape
  obtain ⟨Aa0_27, ca0_27, rfl, hca0_27, hda0_27, ha0_27⟩ := ha0_27.shape
  obtain ⟨Aa0_28, ca0_28, rfl, hca0_28, hda0_28, ha0_28⟩ := ha0_28.shape
  have hs5 := hS.ids
  have hs1 := hS.slots
  have hs2 := hS.free
  have hs3 := hS.rels
  have hs4 := hS.rows
  refine T.seq ?_
  refine T.region ?_
  refine R.box rfl (by conv => lhs; whnf) ?_
  intro b1
  refine TL.shut .hd ?_
  intro Hb1_1 sb1_1 qb1_1
  have hb1_1 : Hb1_1 b1 = some (.cells (c24 a0.1 [.int .i64 (a0.2.1.1), .slice Aa0_25 a0.2.1.2.1.length ca0_25, .slice Aa0_26 a0.2.1.2.2.length ca0_26, .slice Aa0_27 a0.2.2.1.length ca0_27, .slice Aa0_28 a0.2.2.2.length ca0_28]).toArray 31) := shut1 qb1_1
  refine TL.nil (Post.thnN ?_)
  refine T.seq ?_
  refine T.cutK (ι := Unit) (fun _ H' L' ds' => Has L' [] ∧ (if ((k_98 a0.1) : Int) = 0 then (if ((k_27 a0.2.1) : Int) = 0 then (if (k_1a ((decide (((k_35 a0.2.2.1) : Int) = 0)))) = true then (.go ()) else (.ret false)) else (.ret false)) else (.ret false) : LR (Bool) (Unit)) = .go ()) (fun _ => [(1, .pointer (some ⟨b1, 0, none⟩))]) ?_ ?_
  · refine T.region ?_
    refine fA underlying31 rfl sizeOf23 ?_
    refine R.ldXH (cs := (c24 a0.1 [.int .i64 (a0.2.1.1), .slice Aa0_25 a0.2.1.2.1.length ca0_25, .slice Aa0_26 a0.2.1.2.2.length ca0_26, .slice Aa0_27 a0.2.2.1.length ca0_27, .slice Aa0_28 a0.2.2.2.length ca0_28])) (l := (c24 a0.1 [])) isAgg23 sizeOf23 rfl rfl hb1_1 rfl rfl ?_
    refine R.callv rfl rfl rfl (value_Wide_c _ a0.1) ?_
    refine R.eql rfl rfl rfl ?_
    refine R.mvE rfl (by conv => lhs; whnf) ?_
    refine TL.gsplitD 17 rfl (fun g17 => ?_) (fun g17 => ?_)
    · refine fA underlying31 rfl sizeOf27 ?_
      refine R.ldXH (cs := (c24 a0.1 [.int .i64 (a0.2.1.1), .slice Aa0_25 a0.2.1.2.1.length ca0_25, .slice Aa0_26 a0.2.1.2.2.length ca0_26, .slice Aa0_27 a0.2.2.1.length ca0_27, .slice Aa0_28 a0.2.2.2.length ca0_28])) (l := [.int .i64 (a0.2.1.1), .slice Aa0_25 a0.2.1.2.1.length ca0_25, .slice Aa0_26 a0.2.1.2.2.length ca0_26]) isAgg27 sizeOf27 rfl rfl hb1_1 rfl rfl ?_
      refine R.callv rfl rfl rfl (k_b4 _ (sb1_1 _ _ hG1) a0.2.1 _ (ha0_25.mono sb1_1) _ (ha0_26.mono sb1_1) (by first | omega | (simp; done) | (simp; omega) | (simp at *; omega)) (by first | omega | (simp; done) | (simp; omega) | (simp at *; omega))) ?_
      refine R.eql rfl rfl rfl ?_
      refine R.pkTE rfl rfl (by conv => lhs; whnf) ?_
      refine R.mvE rfl (by conv => lhs; whnf) ?_
      refine TL.gsplitD 23 rfl (fun g23 => ?_) (fun g23 => ?_)
      · refine fA underlying31 rfl sizeOf28 ?_
        refine R.ldH isAgg28 rfl rfl hb1_1 rfl ?_
        refine R.callv rfl rfl rfl (trait_Check_c _ (sb1_1 _ _ hG0) _ a0.2.2.1 (ha0_27.mono sb1_1)) ?_
        refine R.eql rfl rfl rfl ?_
        refine R.pkTE rfl rfl (by conv => lhs; whnf) ?_
        refine TL.callz (ok := (k_1a ((decide (((k_35 a0.2.2.1) : Int) = 0))))) rfl rfl rfl (k_5e _ ((decide (((k_35 a0.2.2.1) : Int) = 0)))) ?_ ?_
        · intro cp92 Hp92 sp92
          have dp92 := need_t cp92
          try simp only [decide_eq_true_eq] at dp92
          refine TL.nil (Post.thnN ?_)
          exact ⟨(), sp92, ⟨Has.nil, (by rw [if_pos g17, if_pos g23, if_t cp92])⟩, rfl, trivial⟩
        · intro cp92 Hp92 sp92
          refine id (Post.thnP ?_)
          have hM : k_3b a0 = false := by rw [k_3b, if_pos g17, if_pos g23, if_f cp92, LR.on_ret]
          exact finZP hM
      · refine oF ?_
        refine oF ?_
        refine oF ?_
        refine oF ?_
        refine R.pkFE rfl rfl (by conv => lhs; whnf) ?_
        refine TL.callz (ok := (k_1a false)) rfl rfl rfl (k_5e _ (false)) ?_ ?_
        · intro cp93 Hp93 sp93
          exact absurd cp93 (by decide)
        · intro cp93 Hp93 sp93
          refine id (Post.thnP ?_)
          have hM : k_3b a0 = false := by rw [k_3b, if_pos g17, if_neg g23, LR.on_ret]
          exact finZP hM
    · refine oF ?_
      refine oF ?_
      refine oF ?_
      refine oF ?_
      refine R.pkFE rfl rfl (by conv => lhs; whnf) ?_
      refine R.mvE rfl (by conv => lhs; whnf) ?_
      refine oF ?_
      refine oF ?_
      refine oF ?_
      refine oF ?_
      refine R.pkFE rfl rfl (by conv => lhs; whnf) ?_
      refine TL.callz (ok := (k_1a false)) rfl rfl rfl (k_5e _ (false)) ?_ ?_
      · intro cp94 Hp94 sp94
        exact absurd cp94 (by decide)
      · intro cp94 Hp94 sp94
        refine id (Post.thnP ?_)
        have hM : k_3b a0 = false := by rw [k_3b, if_neg g17, LR.on_ret]
        exact finZP hM
  · intro _ σ_c1 H_c1 L_c1 ds_c1 s_c1 hI_c1
    obtain ⟨hLc1, hTc1⟩ := hI_c1
    refine T.has hLc1 ?_
    refine T.seq ?_
    refine T.region ?_
    refine fA underlying31 rfl sizeOf27 ?_
    refine R.ldXH (cs := (c24 a0.1 [.int .i64 (a0.2.1.1), .slice Aa0_25 a0.2.1.2.1.length ca0_25, .slice Aa0_26 a0.2.1.2.2.length ca0_26, .slice Aa0_27 a0.2.2.1.length ca0_27, .slice Aa0_28 a0.2.2.2.length ca0_28])) (l := [.int .i64 (a0.2.1.1), .slice Aa0_25 a0.2.1.2.1.length ca0_25, .slice Aa0_26 a0.2.1.2.2.length ca0_26]) isAgg27 sizeOf27 rfl rfl (s_c1 _ _ hb1_1) rfl rfl ?_
    obtain ⟨r32, er32⟩ : ∃ r, r = (k_8d a0.2.1) := ⟨_, rfl⟩
    refine TL.call [] rfl rfl rfl (alloc_All_c _ ((sb1_1.trans s_c1) _ _ hG1) a0.2.1 _ (ha0_25.mono (sb1_1.trans s_c1)) _ (ha0_26.mono (sb1_1.trans s_c1)) (by first | omega | (simp; done) | (simp; omega) | (simp at *; omega)) (by first | omega | (simp; done) | (simp; omega) | (simp at *; omega))) ?_
    intro v32 H32 L32 s32 q32
    rw [← er32] at q32
    obtain ⟨u32_0_0, c32_0_0, rfl, rfl, w32_0_0⟩ := q32
    obtain ⟨A32_0_0, p32_0_0, rfl, m32_0_0, n32_0_0⟩ := OwnS.shape w32_0_0
    have ta32 : r32.length ≤ 2000000 := by rw [er32]; exact all_len (by first | omega | (simp; done) | (simp; omega) | (simp at *; omega))
    refine R.asE rfl (by conv => lhs; whnf) ?_
    refine TL.nil (Post.thnN ?_)
    refine T.seq ?_
    refine T.region ?_
    refine R.mvE rfl (by conv => lhs; whnf) ?_
    refine R.len underlying44 rfl rfl ?_
    refine fA underlying31 rfl sizeOf29 ?_
    refine R.ldH isAgg29 rfl rfl ((s_c1.trans s32) _ _ hb1_1) rfl ?_
    refine R.len underlying29 rfl rfl ?_
    refine R.eql rfl rfl rfl ?_
    refine TL.callz (ok := (k_1a ((decide ((r32.length : Int) = (a0.2.2.2.length : Int)))))) rfl rfl rfl (k_5e _ ((decide ((r32.length : Int) = (a0.2.2.2.length : Int))))) ?_ ?_
    · intro cp95 Hp95 sp95
      have dp95 := need_t cp95
      try simp only [decide_eq_true_eq] at dp95
      refine TL.nil (Post.thnN ?_)
      refine T.seq ?_
      refine T.seq ?_
      refine T.region ?_
      refine fA underlying31 rfl sizeOf29 ?_
      refine R.ldH isAgg29 rfl rfl ((s_c1.trans (s32.trans sp95)) _ _ hb1_1) rfl ?_
      refine R.len underlying29 rfl rfl ?_
      refine R.mvE rfl (by conv => lhs; whnf) ?_
      refine TL.nil (Post.thnN ?_)
      refine T.block ?_
      refine T.shut .hd ?_
      intro HF32_0_0_2 sF32_0_0_2 qF32_0_0_2
      have fF32_0_0_2 := OwnS.read (OwnS.mono w32_0_0 sp95) sF32_0_0_2 qF32_0_0_2
      refine T.loop (ι := Nat) (fun kl2 H' L' ds' => kl2 ≤ a0.2.2.2.length ∧ Has L' [] ∧ k_78 r32 (a0.2.2.2.drop kl2) kl2 () = k_78 r32 a0.2.2.2 0 ()) (fun kl2 => [(43, .int .i64 (kl2 : Int)), (1, .pointer (some ⟨b1, 0, none⟩)), (2, .slice A32_0_0 r32.length p32_0_0), (41, .slice Aa0_28 a0.2.2.2.length ca0_28), (42, .int .i64 (a0.2.2.2.length : Int))]) (fun kl2 => a0.2.2.2.length - kl2) 0 ?_ ?_ ?_
      · exact ⟨(by omega), Has.nil, (by rfl)⟩
      · exact ⟨rfl, rfl, rfl, rfl, rfl, trivial⟩
      · intro kl2 σ_l2 H_l2 L_l2 ds_l2 s_l2 hI_l2
        obtain ⟨hkl2, hI_l2⟩ := hI_l2
        obtain ⟨hLl2, hQl2⟩ := hI_l2
        refine T.has hLl2 ?_
        refine T.seq ?_
        refine T.region ?_
        refine R.lss rfl rfl rfl ?_
        refine TL.nil (Post.thnN ?_)
        refine T.seq ?_
        refine T.condD rfl (fun c44 => ?_) (fun c44 => ?_)
        · have hltl2 : kl2 < a0.2.2.2.length := by omega
          obtain ⟨yl2, hyl2⟩ := getk (xs := a0.2.2.2) (k := kl2) (by omega)
          refine T.skip (Post.thnN ?_)
          refine T.seq ?_
          refine T.block ?_
          refine T.seq ?_
          refine T.region ?_
          refine R.mvE rfl (by conv => lhs; whnf) ?_
          obtain ⟨b46, o46, i46, k46⟩ := RdS.elem (ha0_28.mono (sb1_1.trans (s_c1.trans (s32.trans (sp95.trans (sF32_0_0_2.trans s_l2)))))) hyl2
          obtain ⟨l46, g46, k46⟩ := k46
          obtain ⟨z46_1, z46_2, rfl, r46_1, r46_2⟩ := g46
          obtain ⟨A46_1, p46_1, rfl, m46_1, n46_1, r46_1⟩ := r46_1.shape
          obtain ⟨A46_2, p46_2, rfl, m46_2, n46_2, r46_2⟩ := r46_2.shape
          refine R.ixp underlying29 sizeOf47 rfl rfl rfl (by omega) i46 ?_
          refine R.ldK (l := [.int .i64 (yl2.1), .slice A46_1 yl2.2.1.length p46_1, .slice A46_2 yl2.2.2.length p46_2]) isAgg47 sizeOf47 rfl rfl k46 rfl ?_
          refine R.alloc zeroValue47 rfl ?_
          intro b4
          refine R.asE rfl (by conv => lhs; whnf) ?_
          refine stY (l := [.int .i64 (yl2.1), .slice A46_1 yl2.2.1.length p46_1, .slice A46_2 yl2.2.2.length p46_2]) (new := [.int .i64 (yl2.1), .slice A46_1 yl2.2.1.length p46_1, .slice A46_2 yl2.2.2.length p46_2]) .hd sizeOf47 rfl rfl ?_
          refine TL.shut .hd ?_
          intro Hb4_3 sb4_3 qb4_3
          have hb4_3 : Hb4_3 b4 = some (.cells #[.int .i64 (yl2.1), .slice A46_1 yl2.2.1.length p46_1, .slice A46_2 yl2.2.2.length p46_2] 47) := shut1 qb4_3
          refine TL.nil (Post.thnN ?_)
          refine T.seq ?_
          refine T.region ?_
          refine R.mvE rfl (by conv => lhs; whnf) ?_
          refine R.mvE rfl (by conv => lhs; whnf) ?_
          have hl51 : kl2 < r32.length := by first | omega | (simp; done) | (simp; omega) | (simp at *; omega)
          obtain ⟨y51, e51, h51⟩ : ∃ y, y = (r32.getD kl2 (0 : Int)) ∧ r32[kl2]? = some y := ⟨_, rfl, k_46 (by first | exact hl51 | simpa using hl51 | (simp only [List.length_set]; omega) | omega | (rw [(k_26 _).length_eq]; exact hl51))⟩
          obtain ⟨b51, o51, i51, k51⟩ := RdS.elem (fF32_0_0_2.mono (s_l2.trans sb4_3)) h51
          obtain ⟨l51, g51, k51⟩ := k51
          obtain rfl : l51 = [.int .u64 y51] := g51
          refine R.ixp underlying44 sizeOf39 rfl rfl rfl (by first | omega | (simp; done) | (simp; omega) | (simp at *; omega)) i51 ?_
          refine R.ldC isAgg39 rfl rfl (k51 0 _ rfl) ?_
          obtain ⟨r53, er53⟩ : ∃ r, r = (k_1 y51) := ⟨_, rfl⟩
          refine R.callv (v := .tuple #[.int .i64 r53.1, .int .i64 r53.2]) rfl rfl rfl (by rw [er53]; exact k_57 _ (y51)) ?_
          refine R.mvE rfl (by conv => lhs; whnf) ?_
          refine R.ext rfl rfl rfl ?_
          refine R.ext rfl rfl rfl ?_
          refine R.asE rfl (by conv => lhs; whnf) ?_
          refine R.asE rfl (by conv => lhs; whnf) ?_
          refine TL.nil (Post.thnN ?_)
          refine T.region ?_
          refine fA underlying47 rfl sizeOf3 ?_
          refine R.ldH isAgg3 rfl rfl hb4_3 rfl ?_
          refine R.mvE rfl (by conv => lhs; whnf) ?_
          refine R.eql rfl rfl rfl ?_
          refine TL.callz (ok := (k_1a ((decide (yl2.1 = r53.1))))) rfl rfl rfl (k_5e _ ((decide (yl2.1 = r53.1)))) ?_ ?_
          · intro cp96 Hp96 sp96
            have dp96 := need_t cp96
            try simp only [decide_eq_true_eq] at dp96
            refine TL.nil (Post.blkN ?_)
            refine id (Post.thnN ?_)
            refine T.region ?_
            refine R.addI rfl rfl rfl (by omega) ?_
            refine R.mvE rfl (by conv => lhs; whnf) ?_
            refine TL.nil (Post.thnN ?_)
            exact ⟨kl2 + 1, (s_l2.trans (sb4_3.trans sp96)), ⟨(by omega), Has.nil, (by subst er53; subst e51; rw [← hQl2, k_8 hyl2, k_78]; rw [LR.seq_go, if_t cp96])⟩, by show a0.2.2.2.length - (kl2 + 1) < a0.2.2.2.length - kl2; omega, rfl, rfl, rfl, rfl, rfl, trivial⟩
          · intro cp96 Hp96 sp96
            refine id (Post.blkP (Post.thnP (Post.thnP (Post.blkP (Post.thnP ?_)))))
            have hXl2 : k_78 r32 a0.2.2.2 0 () = .ret false := by subst er53; subst e51; rw [← hQl2, k_8 hyl2, k_78]; rw [LR.seq_go, if_f cp96]
            have hM : k_3b a0 = false := by subst er32; rw [k_3b, hTc1, LR.on_go, LR.seq_go, if_t cp95, hXl2, LR.on_ret]
            exact finZP hM
        · refine T.exit (Post.thnE (Post.thnE (Post.blkX ?_)))
          have hEl2 : k_78 r32 a0.2.2.2 0 () = .go () := (hQl2.symm.trans (by rw [show kl2 = a0.2.2.2.length by omega, List.drop_length, k_78]))
          refine id (Post.thnN ?_)
          refine T.seq ?_
          refine T.seq ?_
          refine T.region ?_
          refine fA underlying31 rfl sizeOf29 ?_
          refine R.ldH isAgg29 rfl rfl ((s_c1.trans (s32.trans (sp95.trans (sF32_0_0_2.trans s_l2)))) _ _ hb1_1) rfl ?_
          refine R.len underlying29 rfl rfl ?_
          refine R.mvE rfl (by conv => lhs; whnf) ?_
          refine TL.nil (Post.thnN ?_)
          refine T.block ?_
          refine T.loop (ι := Nat) (fun kl3 H' L' ds' => kl3 ≤ a0.2.2.2.length ∧ Has L' [] ∧ k_77 a0 (a0.2.2.2.drop kl3) () = k_77 a0 a0.2.2.2 ()) (fun kl3 => [(65, .int .i64 (kl3 : Int)), (1, .pointer (some ⟨b1, 0, none⟩)), (63, .slice Aa0_28 a0.2.2.2.length ca0_28), (64, .int .i64 (a0.2.2.2.length : Int))]) (fun kl3 => a0.2.2.2.length - kl3) 0 ?_ ?_ ?_
          · exact ⟨(by omega), Has.nil, (by rfl)⟩
          · exact ⟨rfl, rfl, rfl, rfl, trivial⟩
          · intro kl3 σ_l3 H_l3 L_l3 ds_l3 s_l3 hI_l3
            obtain ⟨hkl3, hI_l3⟩ := hI_l3
            obtain ⟨hLl3, hQl3⟩ := hI_l3
            refine T.has hLl3 ?_
            refine T.seq ?_
            refine T.region ?_
            refine R.lss rfl rfl rfl ?_
            refine TL.nil (Post.thnN ?_)
            refine T.seq ?_
            refine T.condD rfl (fun c66 => ?_) (fun c66 => ?_)
            · have hltl3 : kl3 < a0.2.2.2.length := by omega
              obtain ⟨yl3, hyl3⟩ := getk (xs := a0.2.2.2) (k := kl3) (by omega)
              have hR3 := hS.row yl3 (List.mem_of_getElem? hyl3)
              refine T.skip (Post.thnN ?_)
              refine T.seq ?_
              refine T.block ?_
              refine T.seq ?_
              refine T.region ?_
              obtain ⟨b67, o67, i67, k67⟩ := RdS.elem (ha0_28.mono (sb1_1.trans (s_c1.trans (s32.trans (sp95.trans (sF32_0_0_2.trans (s_l2.trans s_l3))))))) hyl3
              obtain ⟨l67, g67, k67⟩ := k67
              obtain ⟨z67_1, z67_2, rfl, r67_1, r67_2⟩ := g67
              obtain ⟨A67_1, p67_1, rfl, m67_1, n67_1, r67_1⟩ := r67_1.shape
              obtain ⟨A67_2, p67_2, rfl, m67_2, n67_2, r67_2⟩ := r67_2.shape
              refine R.ixp underlying29 sizeOf47 rfl rfl rfl (by omega) i67 ?_
              refine R.ldK (l := [.int .i64 (yl3.1), .slice A67_1 yl3.2.1.length p67_1, .slice A67_2 yl3.2.2.length p67_2]) isAgg47 sizeOf47 rfl rfl k67 rfl ?_
              refine R.alloc zeroValue47 rfl ?_
              intro b8
              refine stY (l := [.int .i64 (yl3.1), .slice A67_1 yl3.2.1.length p67_1, .slice A67_2 yl3.2.2.length p67_2]) (new := [.int .i64 (yl3.1), .slice A67_1 yl3.2.1.length p67_1, .slice A67_2 yl3.2.2.length p67_2]) .hd sizeOf47 rfl rfl ?_
              refine TL.shut .hd ?_
              intro Hb8_4 sb8_4 qb8_4
              have hb8_4 : Hb8_4 b8 = some (.cells #[.int .i64 (yl3.1), .slice A67_1 yl3.2.1.length p67_1, .slice A67_2 yl3.2.2.length p67_2] 47) := shut1 qb8_4
              refine TL.nil (Post.thnN ?_)
              refine T.region ?_
              refine R.ldXH (cs := (c24 a0.1 [.int .i64 (a0.2.1.1), .slice Aa0_25 a0.2.1.2.1.length ca0_25, .slice Aa0_26 a0.2.1.2.2.length ca0_26, .slice Aa0_27 a0.2.2.1.length ca0_27, .slice Aa0_28 a0.2.2.2.length ca0_28])) (l := (c24 a0.1 [.int .i64 (a0.2.1.1), .slice Aa0_25 a0.2.1.2.1.length ca0_25, .slice Aa0_26 a0.2.1.2.2.length ca0_26, .slice Aa0_27 a0.2.2.1.length ca0_27, .slice Aa0_28 a0.2.2.2.length ca0_28])) isAgg31 sizeOf31 rfl rfl ((s_c1.trans (s32.trans (sp95.trans (sF32_0_0_2.trans (s_l2.trans (s_l3.trans sb8_4)))))) _ _ hb1_1) rfl rfl ?_
              refine R.ldXH (cs := [.int .i64 (yl3.1), .slice A67_1 yl3.2.1.length p67_1, .slice A67_2 yl3.2.2.length p67_2]) (l := [.int .i64 (yl3.1), .slice A67_1 yl3.2.1.length p67_1, .slice A67_2 yl3.2.2.length p67_2]) isAgg47 sizeOf47 rfl rfl hb8_4 rfl rfl ?_
              refine TL.callz (ok := (k_48 a0 yl3)) rfl rfl rfl (state_row_c _ ((sb1_1.trans (s_c1.trans (s32.trans (sp95.trans (sF32_0_0_2.trans (s_l2.trans (s_l3.trans sb8_4))))))) _ _ hG0) a0 _ (ha0_25.mono (sb1_1.trans (s_c1.trans (s32.trans (sp95.trans (sF32_0_0_2.trans (s_l2.trans (s_l3.trans sb8_4)))))))) _ (ha0_26.mono (sb1_1.trans (s_c1.trans (s32.trans (sp95.trans (sF32_0_0_2.trans (s_l2.trans (s_l3.trans sb8_4)))))))) _ (ha0_27.mono (sb1_1.trans (s_c1.trans (s32.trans (sp95.trans (sF32_0_0_2.trans (s_l2.trans (s_l3.trans sb8_4)))))))) _ (ha0_28.mono (sb1_1.trans (s_c1.trans (s32.trans (sp95.trans (sF32_0_0_2.trans (s_l2.trans (s_l3.trans sb8_4)))))))) yl3 _ (r67_1.mono sb8_4) _ (r67_2.mono sb8_4) (by assumption) (by assumption)) ?_ ?_
              · intro cp97 Hp97 sp97
                refine TL.nil (Post.blkN ?_)
                refine id (Post.thnN ?_)
                refine T.region ?_
                refine R.addI rfl rfl rfl (by omega) ?_
                refine R.mvE rfl (by conv => lhs; whnf) ?_
                refine TL.nil (Post.thnN ?_)
                exact ⟨kl3 + 1, (s_l3.trans (sb8_4.trans sp97)), ⟨(by omega), Has.nil, (by rw [← hQl3, k_8 hyl3, k_77]; rw [if_t cp97])⟩, by show a0.2.2.2.length - (kl3 + 1) < a0.2.2.2.length - kl3; omega, rfl, rfl, rfl, rfl, trivial⟩
              · intro cp97 Hp97 sp97
                refine id (Post.blkP (Post.thnP (Post.thnP (Post.blkP (Post.thnP ?_)))))
                have hXl3 : k_77 a0 a0.2.2.2 () = .ret false := by rw [← hQl3, k_8 hyl3, k_77]; rw [if_f cp97]
                have hM : k_3b a0 = false := by subst er32; rw [k_3b, hTc1, LR.on_go, LR.seq_go, if_t cp95, hEl2, LR.on_go, hXl3, LR.on_ret]
                exact finZP hM
            · refine T.exit (Post.thnE (Post.thnE (Post.blkX ?_)))
              have hEl3 : k_77 a0 a0.2.2.2 () = .go () := (hQl3.symm.trans (by rw [show kl3 = a0.2.2.2.length by omega, List.drop_length, k_77]))
              refine id (Post.thnN ?_)
              refine T.seq ?_
              refine T.region ?_
              refine fA underlying31 rfl sizeOf28 ?_
              refine R.ldH isAgg28 rfl rfl ((s_c1.trans (s32.trans (sp95.trans (sF32_0_0_2.trans (s_l2.trans s_l3))))) _ _ hb1_1) rfl ?_
              refine R.len underlying28 rfl rfl ?_
              refine R.mvE rfl (by conv => lhs; whnf) ?_
              refine TL.nil (Post.thnN ?_)
              refine T.block ?_
              refine T.loop (ι := Nat) (fun kl4 H' L' ds' => kl4 ≤ a0.2.2.1.length ∧ Has L' [] ∧ k_4a a0 (a0.2.2.1.drop kl4) () = k_4a a0 a0.2.2.1 ()) (fun kl4 => [(76, .int .i64 (kl4 : Int)), (1, .pointer (some ⟨b1, 0, none⟩)), (74, .slice Aa0_27 a0.2.2.1.length ca0_27), (75, .int .i64 (a0.2.2.1.length : Int))]) (fun kl4 => a0.2.2.1.length - kl4) 0 ?_ ?_ ?_
              · exact ⟨(by omega), Has.nil, (by rfl)⟩
              · exact ⟨rfl, rfl, rfl, rfl, trivial⟩
              · intro kl4 σ_l4 H_l4 L_l4 ds_l4 s_l4 hI_l4
                obtain ⟨hkl4, hI_l4⟩ := hI_l4
                obtain ⟨hLl4, hQl4⟩ := hI_l4
                refine T.has hLl4 ?_
                refine T.seq ?_
                refine T.region ?_
                refine R.lss rfl rfl rfl ?_
                refine TL.nil (Post.thnN ?_)
                refine T.seq ?_
                refine T.condD rfl (fun c77 => ?_) (fun c77 => ?_)
                · have hltl4 : kl4 < a0.2.2.1.length := by omega
                  obtain ⟨yl4, hyl4⟩ := getk (xs := a0.2.2.1) (k := kl4) (by omega)
                  refine T.skip (Post.thnN ?_)
                  refine T.seq ?_
                  refine T.block ?_
                  refine T.seq ?_
                  refine T.region ?_
                  obtain ⟨b78, o78, i78, k78⟩ := RdS.elem (ha0_27.mono (sb1_1.trans (s_c1.trans (s32.trans (sp95.trans (sF32_0_0_2.trans (s_l2.trans (s_l3.trans s_l4)))))))) hyl4
                  obtain ⟨l78, g78, k78⟩ := k78
                  obtain rfl : l78 = [.int .i64 (yl4.1), .bool (yl4.2.1), .bool (yl4.2.2.1), .int .i64 (yl4.2.2.2.1), .int .i64 (yl4.2.2.2.2.1), .int .i64 (yl4.2.2.2.2.2)] := g78
                  refine R.ixp underlying28 sizeOf55 rfl rfl rfl (by omega) i78 ?_
                  refine R.ldK (l := [.int .i64 (yl4.1), .bool (yl4.2.1), .bool (yl4.2.2.1), .int .i64 (yl4.2.2.2.1), .int .i64 (yl4.2.2.2.2.1), .int .i64 (yl4.2.2.2.2.2)]) isAgg55 sizeOf55 rfl rfl k78 rfl ?_
                  refine R.alloc zeroValue55 rfl ?_
                  intro b10
                  refine stY (l := [.int .i64 (yl4.1), .bool (yl4.2.1), .bool (yl4.2.2.1), .int .i64 (yl4.2.2.2.1), .int .i64 (yl4.2.2.2.2.1), .int .i64 (yl4.2.2.2.2.2)]) (new := [.int .i64 (yl4.1), .bool (yl4.2.1), .bool (yl4.2.2.1), .int .i64 (yl4.2.2.2.1), .int .i64 (yl4.2.2.2.2.1), .int .i64 (yl4.2.2.2.2.2)]) .hd sizeOf55 rfl rfl ?_
                  refine TL.shut .hd ?_
                  intro Hb10_5 sb10_5 qb10_5
                  have hb10_5 : Hb10_5 b10 = some (.cells #[.int .i64 (yl4.1), .bool (yl4.2.1), .bool (yl4.2.2.1), .int .i64 (yl4.2.2.2.1), .int .i64 (yl4.2.2.2.2.1), .int .i64 (yl4.2.2.2.2.2)] 55) := shut1 qb10_5
                  refine TL.nil (Post.thnN ?_)
                  refine T.seq ?_
                  refine T.region ?_
                  refine R.ldXH (cs := (c24 a0.1 [.int .i64 (a0.2.1.1), .slice Aa0_25 a0.2.1.2.1.length ca0_25, .slice Aa0_26 a0.2.1.2.2.length ca0_26, .slice Aa0_27 a0.2.2.1.length ca0_27, .slice Aa0_28 a0.2.2.2.length ca0_28])) (l := (c24 a0.1 [.int .i64 (a0.2.1.1), .slice Aa0_25 a0.2.1.2.1.length ca0_25, .slice Aa0_26 a0.2.1.2.2.length ca0_26, .slice Aa0_27 a0.2.2.1.length ca0_27, .slice Aa0_28 a0.2.2.2.length ca0_28])) isAgg31 sizeOf31 rfl rfl ((s_c1.trans (s32.trans (sp95.trans (sF32_0_0_2.trans (s_l2.trans (s_l3.trans (s_l4.trans sb10_5))))))) _ _ hb1_1) rfl rfl ?_
                  refine fA underlying55 rfl sizeOf3 ?_
                  refine R.ldH isAgg3 rfl rfl hb10_5 rfl ?_
                  obtain ⟨r84, er84⟩ : ∃ r, r = (k_1b a0 yl4.1) := ⟨_, rfl⟩
                  refine R.callv (v := .tuple #[.int .i64 r84.1, .bool r84.2]) rfl rfl rfl (by rw [er84]; exact state_find_c _ a0 _ (ha0_25.mono (sb1_1.trans (s_c1.trans (s32.trans (sp95.trans (sF32_0_0_2.trans (s_l2.trans (s_l3.trans (s_l4.trans sb10_5))))))))) _ (ha0_26.mono (sb1_1.trans (s_c1.trans (s32.trans (sp95.trans (sF32_0_0_2.trans (s_l2.trans (s_l3.trans (s_l4.trans sb10_5))))))))) _ (ha0_27.mono (sb1_1.trans (s_c1.trans (s32.trans (sp95.trans (sF32_0_0_2.trans (s_l2.trans (s_l3.trans (s_l4.trans sb10_5))))))))) _ (ha0_28.mono (sb1_1.trans (s_c1.trans (s32.trans (sp95.trans (sF32_0_0_2.trans (s_l2.trans (s_l3.trans (s_l4.trans sb10_5))))))))) (yl4.1) (by first | omega | (simp; done) | (simp; omega) | (simp at *; omega))) ?_
                  refine R.mvE rfl (by conv => lhs; whnf) ?_
                  refine R.ext rfl rfl rfl ?_
                  refine R.ext rfl rfl rfl ?_
                  refine R.asE rfl (by conv => lhs; whnf) ?_
                  refine R.asE rfl (by conv => lhs; whnf) ?_
                  refine TL.nil (Post.thnN ?_)
                  refine T.region ?_
                  refine R.mvE rfl (by conv => lhs; whnf) ?_
                  refine R.mvE rfl (by conv => lhs; whnf) ?_
                  refine TL.gsplit 88 rfl (fun g88 => ?_) (fun g88 => ?_)
                  · refine fA underlying55 rfl sizeOf51 ?_
                    refine fA underlying51 rfl sizeOf4 ?_
                    refine R.ldH isAgg4 rfl rfl hb10_5 rfl ?_
                    refine R.not rfl rfl ?_
                    refine R.mvE rfl (by conv => lhs; whnf) ?_
                    refine TL.gsplit 93 rfl (fun g93 => ?_) (fun g93 => ?_)
                    · refine oF ?_
                      refine oF ?_
                      refine oF ?_
                      refine oF ?_
                      refine oF ?_
                      refine oF ?_
                      refine R.pkTE rfl rfl (by conv => lhs; whnf) ?_
                      refine R.pkTE rfl rfl (by conv => lhs; whnf) ?_
                      refine TL.callz (ok := (k_1a true)) rfl rfl rfl (k_5e _ (true)) ?_ ?_
                      · intro cp98 Hp98 sp98
                        have dp98 := need_t cp98
                        try simp only [decide_eq_true_eq] at dp98
                        refine TL.nil (Post.blkN ?_)
                        refine id (Post.thnN ?_)
                        refine T.region ?_
                        refine R.addI rfl rfl rfl (by omega) ?_
                        refine R.mvE rfl (by conv => lhs; whnf) ?_
                        refine TL.nil (Post.thnN ?_)
                        exact ⟨kl4 + 1, (s_l4.trans (sb10_5.trans sp98)), ⟨(by omega), Has.nil, (by subst er84; rw [← hQl4, k_8 hyl4, k_4a]; rw [LR.seq_go, if_t g88, if_t g93])⟩, by show a0.2.2.1.length - (kl4 + 1) < a0.2.2.1.length - kl4; omega, rfl, rfl, rfl, rfl, trivial⟩
                      · intro cp98 Hp98 sp98
                        exact absurd cp98 (by decide)
                    · refine R.ldXH (cs := (c24 a0.1 [.int .i64 (a0.2.1.1), .slice Aa0_25 a0.2.1.2.1.length ca0_25, .slice Aa0_26 a0.2.1.2.2.length ca0_26, .slice Aa0_27 a0.2.2.1.length ca0_27, .slice Aa0_28 a0.2.2.2.length ca0_28])) (l := (c24 a0.1 [.int .i64 (a0.2.1.1), .slice Aa0_25 a0.2.1.2.1.length ca0_25, .slice Aa0_26 a0.2.1.2.2.length ca0_26, .slice Aa0_27 a0.2.2.1.length ca0_27, .slice Aa0_28 a0.2.2.2.length ca0_28])) isAgg31 sizeOf31 rfl rfl ((s_c1.trans (s32.trans (sp95.trans (sF32_0_0_2.trans (s_l2.trans (s_l3.trans (s_l4.trans sb10_5))))))) _ _ hb1_1) rfl rfl ?_
                      refine fA underlying55 rfl sizeOf3 ?_
                      refine R.ldH isAgg3 rfl rfl hb10_5 rfl ?_
                      obtain ⟨r97, er97⟩ : ∃ r, r = (k_3c a0 yl4.1) := ⟨_, rfl⟩
                      refine TL.call [] rfl rfl rfl (state_links_c _ a0 _ (ha0_25.mono (sb1_1.trans (s_c1.trans (s32.trans (sp95.trans (sF32_0_0_2.trans (s_l2.trans (s_l3.trans (s_l4.trans sb10_5))))))))) _ (ha0_26.mono (sb1_1.trans (s_c1.trans (s32.trans (sp95.trans (sF32_0_0_2.trans (s_l2.trans (s_l3.trans (s_l4.trans sb10_5))))))))) _ (ha0_27.mono (sb1_1.trans (s_c1.trans (s32.trans (sp95.trans (sF32_0_0_2.trans (s_l2.trans (s_l3.trans (s_l4.trans sb10_5))))))))) _ (ha0_28.mono (sb1_1.trans (s_c1.trans (s32.trans (sp95.trans (sF32_0_0_2.trans (s_l2.trans (s_l3.trans (s_l4.trans sb10_5))))))))) (yl4.1) (by first | omega | (simp; done) | (simp; omega) | (simp at *; omega))) ?_
                      intro v97 H97 L97 s97 q97
                      rw [← er97] at q97
                      obtain ⟨u97_0_0, c97_0_0, rfl, rfl, w97_0_0⟩ := q97
                      obtain ⟨A97_0_0, p97_0_0, rfl, m97_0_0, n97_0_0⟩ := OwnS.shape w97_0_0
                      have tl97 := links_len _ _ _ er97
                      refine TL.shut .hd ?_
                      intro HF97_0_0_6 sF97_0_0_6 qF97_0_0_6
                      have fF97_0_0_6 := OwnS.read w97_0_0 sF97_0_0_6 qF97_0_0_6
                      refine R.callv rfl rfl rfl (CH.round_c _ _ r97 fF97_0_0_6 (by first | omega | (simp; done) | (simp; omega) | (simp at *; omega))) ?_
                      refine R.not rfl rfl ?_
                      refine R.pkFE rfl rfl (by conv => lhs; whnf) ?_
                      refine R.pkTE rfl rfl (by conv => lhs; whnf) ?_
                      refine TL.callz (ok := (k_1a ((!(roundR r97))))) rfl rfl rfl (k_5e _ ((!(roundR r97)))) ?_ ?_
                      · intro cp99 Hp99 sp99
                        have dp99 := need_t cp99
                        try simp only [decide_eq_true_eq] at dp99
                        refine TL.nil (Post.blkN ?_)
                        refine id (Post.thnN ?_)
                        refine T.region ?_
                        refine R.addI rfl rfl rfl (by omega) ?_
                        refine R.mvE rfl (by conv => lhs; whnf) ?_
                        refine TL.nil (Post.thnN ?_)
                        exact ⟨kl4 + 1, (s_l4.trans (sb10_5.trans (s97.trans (sF97_0_0_6.trans sp99)))), ⟨(by omega), Has.nil, (by subst er97; subst er84; rw [← hQl4, k_8 hyl4, k_4a]; rw [LR.seq_go, if_t g88, if_f g93, LR.seq_go, if_t cp99])⟩, by show a0.2.2.1.length - (kl4 + 1) < a0.2.2.1.length - kl4; omega, rfl, rfl, rfl, rfl, trivial⟩
                      · intro cp99 Hp99 sp99
                        refine id (Post.blkP (Post.thnP (Post.thnP (Post.blkP ?_))))
                        have hXl4 : k_4a a0 a0.2.2.1 () = .ret false := by subst er97; subst er84; rw [← hQl4, k_8 hyl4, k_4a]; rw [LR.seq_go, if_t g88, if_f g93, LR.seq_go, if_f cp99]
                        have hM : k_3b a0 = false := by subst er32; rw [k_3b, hTc1, LR.on_go, LR.seq_go, if_t cp95, hEl2, LR.on_go, hEl3, LR.on_go, hXl4, LR.on_ret]
                        exact finZP hM
                  · refine oF ?_
                    refine oF ?_
                    refine oF ?_
                    refine oF ?_
                    refine oF ?_
                    refine TL.offU rfl rfl ?_
                    refine TL.offU rfl rfl ?_
                    refine TL.offU rfl rfl ?_
                    refine TL.offU rfl rfl ?_
                    refine TL.offU rfl rfl ?_
                    refine TL.offU rfl rfl ?_
                    refine oF ?_
                    refine R.pkFE rfl rfl (by conv => lhs; whnf) ?_
                    refine TL.callz (ok := (k_1a false)) rfl rfl rfl (k_5e _ (false)) ?_ ?_
                    · intro cp100 Hp100 sp100
                      exact absurd cp100 (by decide)
                    · intro cp100 Hp100 sp100
                      refine id (Post.blkP (Post.thnP (Post.thnP (Post.blkP ?_))))
                      have hXl4 : k_4a a0 a0.2.2.1 () = .ret false := by subst er84; rw [← hQl4, k_8 hyl4, k_4a]; rw [LR.seq_go, if_f g88]
                      have hM : k_3b a0 = false := by subst er32; rw [k_3b, hTc1, LR.on_go, LR.seq_go, if_t cp95, hEl2, LR.on_go, hEl3, LR.on_go, hXl4, LR.on_ret]
                      exact finZP hM
                · refine T.exit (Post.thnE (Post.thnE (Post.blkX ?_)))
                  have hEl4 : k_4a a0 a0.2.2.1 () = .go () := (hQl4.symm.trans (by rw [show kl4 = a0.2.2.1.length by omega, List.drop_length, k_4a]))
                  refine id ?_
                  have hM : k_3b a0 = true := by subst er32; rw [k_3b, hTc1, LR.on_go, LR.seq_go, if_t cp95, hEl2, LR.on_go, hEl3, LR.on_go, hEl4, LR.on_go]
                  exact finZN rfl hM
    · intro cp95 Hp95 sp95
      refine id (Post.thnP ?_)
      have hM : k_3b a0 = false := by subst er32; rw [k_3b, hTc1, LR.on_go, LR.seq_go, if_f cp95]
      exact finZP hM
end Go.SX
namespace Go.SX
open Go
attribute [local semireducible] T TL
def TR (fr : Fr) (x : Cx) (c : Code) (R : Exit → Act → World → Prop) (σ : Env) (H : Heap) (L : Own) (ds : List Nat) : Prop :=
  ∀ a w, Sim fr.N σ a.tmps → a.defers = ds.map mk ++ fr.D → St x H (L.flatten ++ hid fr.rd ds) w → c.wpIn (fence fr.rd) 0 fr.P R a w
section
variable {fr : Fr} {x : Cx} {Q : Post} {R : Exit → Act → World → Prop} {σ : Env} {H : Heap} {L : Own} {ds : List Nat}
theorem TR.seq {a b : Code} (hq : ∀ e ac w, e ≠ .normal → lift fr x Q e ac w → R e ac w) (h : T fr x a (Post.thn (fun σ' H' L' ds' => TR fr x b R σ' H' L' ds') Q) σ H L ds) : TR fr x (.seq a b) R σ H L ds := by
  intro ac w hs hd hst
  refine wpIn_seq (wpIn_mono (h ac w hs hd hst) ?_)
  rintro e a' w' ⟨σ', H', L', ds', hs', hd', hst', hq'⟩
  cases e with
  | normal => exact hq' a' w' hs' hd' hst'
  | _ => exact hq _ _ _ (by simp) ⟨σ', H', L', ds', hs', hd', hst', hq'⟩
theorem TR.defer {id d g : Nat} {co : List Operand} {cv : List Value} {t1 t2 : TypeId} {p1 p2 : String} {f1 f2 : Array Edge} {rest : Code} {QD : Post}
    (hrd : fr.rd = none) (hdN : Nat.blt d fr.N = true) (hcv : co.map (ev σ) = cv)
    (hq : ∀ e a w, lift { fr with D := ⟨.fn (.func g) cv.toArray, #[]⟩ :: fr.D } x QD e a w → R e a w)
    (h : T { fr with D := ⟨.fn (.func g) cv.toArray, #[]⟩ :: fr.D } x rest QD (upd σ d (.func (.func g) #[] cv.toArray)) H L []) :
    TR fr x (.seq (.region id #[⟨some d, .makeFunc (.func g) #[] co.toArray, t1, p1, f1, none⟩, ⟨none, .defer { callee := .value (.tmp d), args := #[], argTypes := #[] }, t2, p2, f2, none⟩] false) rest) R σ H L [] := by
  intro a w hs hd hst
  refine wpIn_seq (wpIn_region (k_6e _ a w ?_))
  have hs2 := hs.putA d (.func (.func g) #[] cv.toArray) hdN
  have hcv2 : co.toArray.map a.eval = cv.toArray := by
    rw [← hcv, hs.eval]; simp
  have hg : (Act.put a (some d) (.func (.func g) #[] cv.toArray)).eval (.tmp d) = .func (.func g) #[] cv.toArray := by
    rw [Sim.eval (N := fr.N) (σ := upd σ d (.func (.func g) #[] cv.toArray)) hs2]; show upd σ d _ d = _; simp [upd]
  let o1 : Oper := ⟨some d, .makeFunc (.func g) #[] co.toArray, t1, p1, f1, none⟩
  let o2 : Oper := ⟨none, .defer { callee := .value (.tmp d), args := #[], argTypes := #[] }, t2, p2, f2, none⟩
  have hlist : (List.range (#[o1, o2] : Array Oper).size).filterMap (fun i => (#[o1, o2] : Array Oper)[i]?) = [o1, o2] := rfl
  show wpLo (fence fr.rd) fr.P #[o1, o2] _ ((List.range (#[o1, o2] : Array Oper).size).filterMap (fun i => (#[o1, o2] : Array Oper)[i]?)) a w
  rw [hlist]
  unfold wpLo
  rw [if_pos (show Region.wanted o1 _ = true from rfl)]
  refine ⟨fun f _ => fenceFn _ f, ?_⟩
  rw [k_b0 (o := o1) rfl]
  have h1 : (execOp a.eval o1).run fr.P w = .ok (.value (.func (.func g) #[] cv.toArray)) w := by
    show ((do let y ← Instr.makeFunc (.func g) (#[].map a.eval) (co.toArray.map a.eval); pure (Next.value y) : Sem Next)).run fr.P w = _
    rw [hcv2]; simp [Instr.makeFunc]
  rw [h1]
  show wpLo (fence fr.rd) fr.P #[o1, o2] _ [o2] (a.put (some d) (.func (.func g) #[] cv.toArray)) w
  generalize ha2 : a.put (some d) (.func (.func g) #[] cv.toArray) = a2 at *
  unfold wpLo
  rw [if_pos (show Region.wanted o2 _ = true from rfl)]
  refine ⟨fun f _ => fenceFn _ f, ?_⟩
  have h2 : (o2.semAt (fence fr.rd).round a2.eval).run fr.P w = .ok (.defer ⟨.fn (.func g) cv.toArray, #[]⟩) w := by
    rw [hrd]
    show (do let y ← resolve a2.eval { callee := .value (.tmp d), args := #[], argTypes := #[] } t2; pure (Next.defer y) : Sem Next).run fr.P w = _
    simp only [resolve]
    rw [hg]
    simp [Deferred.ofValue]
  rw [h2, Oper.uponIn_defer]
  show wpLo (fence fr.rd) fr.P #[o1, o2] _ [] ({ a2 with defers := ⟨.fn (.func g) cv.toArray, #[]⟩ :: a2.defers }.put none undef) w
  unfold wpLo
  have hds : a2.defers = fr.D := by
    rw [← ha2, put_defers', hd]; rfl
  have := h ({ a2 with defers := ⟨.fn (.func g) cv.toArray, #[]⟩ :: a2.defers }.put none undef) w (by show Sim fr.N _ a2.tmps; exact hs2) (by show _ :: a2.defers = _; rw [hds]; rfl) hst
  exact wpIn_mono this hq
end
theorem sim_ent {N : Nat} (vs : List Value) (hle : Nat.ble vs.length N = true) : Sim N (ent vs) (vs.toArray ++ Array.replicate (N - vs.toArray.size) undef) := by
  have hle' : vs.length ≤ N := Nat.le_of_ble_eq_true hle
  refine ⟨by simp; omega, fun i => ?_⟩
  rw [Array.getD_eq_getD_getElem?]
  unfold ent
  rw [nth_eq]
  by_cases hi : i < vs.length
  · rw [Array.getElem?_append_left (by simpa using hi)]
    simp only [List.getElem?_toArray]
    rw [List.getElem?_eq_getElem hi]
    rfl
  · rw [Array.getElem?_append_right (by simpa using Nat.le_of_not_lt hi)]
    rw [List.getElem?_eq_none (Nat.le_of_not_lt hi)]
    simp only [Array.getElem?_replicate]
    split <;> rfl
def dPostC (post : Heap → Own → Prop) : Post
  | .normal, _, H, L, ds | .ret, _, H, L, ds => ds = [] ∧ post H L
  | _, _, _, _, _ => False
theorem CD.of_body {P : Program} {g : FuncId} {fn : Func} {id d N : Nat} {ty : TypeId} {p : String} {af : Array Edge} {rest : Code} {cv : List Value} {x : Cx} {H : Heap} {L : Own} {post : Heap → Own → Prop} {v : Value} {u u' : FrameMode} {w : World}
    (hf : P.funcs[g]? = some fn) (hb : fn.body = some (.seq (.region id #[⟨some d, .call { callee := .builtin .recover, args := #[], argTypes := #[] }, ty, p, af, none⟩] false) rest)) (hN : fn.ntmps = N) (hle : Nat.ble cv.length N = true) (hdN : Nat.blt d N = true) (hres : fn.results = #[])
    (hu : (u = .returning ∧ v = .nilIface ∧ u' = .returning) ∨ (u = .panicking [{ v := v, recovered := false }] ∧ u' = .panicking [{ v := v, recovered := true }]))
    (hst : St x H L.flatten w) (h : T ⟨P, N, none, []⟩ x rest (dPostC post) (upd (ent cv) d v) H L []) :
    CallsDIn Fence.wide 0 P g cv.toArray u w (fun e u'' w' => e = .returned (.tuple #[]) ∧ u'' = u' ∧ ∃ H' L', St x H' (List.flatten L') w' ∧ post H' L') := by
  refine callsDIn_of_wpSIn hf hb trivial (fun c₀ cs hm => ?_)
  refine wpSIn_seq (wpSIn_region ?_)
  let o : Oper := ⟨some d, .call { callee := .builtin .recover, args := #[], argTypes := #[] }, ty, p, af, none⟩
  have hs := sim_ent cv hle
  rw [← hN] at hs
  generalize ha : ({ tmps := cv.toArray ++ Array.replicate (fn.ntmps - cv.toArray.size) undef, defers := [] } : Act) = a
  have hs0 : Sim fn.ntmps (ent cv) a.tmps := by rw [← ha]; exact hs
  have hd0 : a.defers = [] := by rw [← ha]
  have hr : (execOp a.eval o).run P w = .ok .recover w := by simp [execOp, o, resolve, go_sem]
  have fin : ∀ cs', cs' = { c₀ with mode := u' } :: cs → Exit.thenS (rest.wpSIn Fence.wide 0 P (bodyPostS P fn c₀ cs (fun e u'' w' => e = .returned (.tuple #[]) ∧ u'' = u' ∧ ∃ H' L', St x H' (List.flatten L') w' ∧ post H' L'))) (bodyPostS P fn c₀ cs (fun e u'' w' => e = .returned (.tuple #[]) ∧ u'' = u' ∧ ∃ H' L', St x H' (List.flatten L') w' ∧ post H' L')) .normal (a.put (some d) v) cs' w := by
    intro cs' hcs
    show rest.wpSIn Fence.wide 0 P _ _ cs' w
    refine wpSIn_of_wpIn rfl ?_
    have h1 := h (a.put (some d) v) w (by rw [← hN]; exact hs0.putA d v (by rw [hN]; exact hdN)) (by rw [put_defers', hd0]; rfl) (by simpa [hid] using hst)
    refine wpIn_mono h1 ?_
    rintro e a' w' ⟨σ', H', L', ds', hs', hd', hst', hq⟩
    have key : ds' = [] → post H' L' → a'.defers = [] ∧ ∃ u'', cs' = { c₀ with mode := u'' } :: cs ∧ ∃ v, (results fn a'.tmps).run P w' = .ok v w' ∧ (Ending.returned v = .returned (.tuple #[]) ∧ u'' = u' ∧ ∃ H' L', St x H' (List.flatten L') w' ∧ post H' L') := by
      intro e1 e2
      subst e1
      exact ⟨hd', u', hcs, .tuple #[], results_none hres a'.tmps P w', rfl, rfl, H', L', by simpa [hid] using hst', e2⟩
    cases e with
    | normal => exact key hq.1 hq.2
    | ret => exact key hq.1 hq.2
    | _ => exact hq.elim
  show wpOpsSIn Fence.wide 0 P #[o] _ [0] a (c₀ :: cs) w
  unfold wpOpsSIn
  show _ ∧ _
  refine ⟨fun _ _ => trivial, ?_⟩
  simp only [List.getElem_toArray, List.getElem_cons_zero]
  rw [if_pos (show Region.wanted o _ = true from rfl), hr]
  rcases hu with ⟨rfl, rfl, rfl⟩ | ⟨rfl, rfl⟩
  · have : recoverD (c₀ :: cs) = none := by simp [recoverD, hm]
    rw [this]
    exact fin _ (by cases c₀; simp_all)
  · have : recoverD (c₀ :: cs) = some (v, { c₀ with mode := .panicking [{ v := v, recovered := true }] } :: cs) := by simp [recoverD, hm]
    rw [this]
    exact fin _ rfl
def DL (P : Program) (fn : Func) (N g : Nat) (cv : List Value) (x : Cx) (post : Value → Heap → Own → Prop) (u : FrameMode) (σ : Env) (H : Heap) (L : Own) : Prop :=
  ∀ w, St x H L.flatten w → CallsDIn Fence.wide 0 P g cv.toArray u w (fun e u' w' => (∃ r, e = .returned r) ∧ settle u' = .returning ∧ ∃ H' L' v L1, St x H' (List.flatten L') w' ∧ List.Sublist L1 L' ∧ resOk P fn N σ H' L' v ∧ post v H' L1)
def fnPostD (P : Program) (fn : Func) (N g : Nat) (cv : List Value) (x : Cx) (post : Value → Heap → Own → Prop) : Post
  | .normal, σ, H, L, _ | .ret, σ, H, L, _ => DL P fn N g cv x post .returning σ H L
  | .panic c, σ, H, L, _ => DL P fn N g cv x post (.panicking c) σ H L
  | _, _, _, _, _ => False
def bodyD (P : Program) (fn : Func) (w : World) (H : Heap) (L : Own) (post : Value → Heap → Own → Prop) : Exit → Act → World → Prop :=
  bodyPostM Fence.wide 0 P fn (fun e w' => ∃ v H' L', e = .returned v ∧ St ⟨w, H, L.flatten⟩ H' (List.flatten L') w' ∧ post v H' L')
theorem leavesD {P : Program} {fn : Func} {N g : Nat} {cv : List Value} {tmps : Array Value} {σ : Env} {w : World} {H0 : Heap} {L0 : Own} {H : Heap} {L : Own} {post : Value → Heap → Own → Prop} {u : FrameMode} (hu : u ≠ .run)
    (hinv : ∀ w, (invoke (.fn (.func g) cv.toArray) #[]).run P w = .ok (.enter g cv.toArray) w) (hs : Sim N σ tmps) (hD : DL P fn N g cv ⟨w, H0, L0.flatten⟩ post u σ H L) : ∀ (ds : List Nat) (w' : World), St ⟨w, H0, L0.flatten⟩ H (L.flatten ++ ds.map (fun D => (D, Obj.deferred (some [])))) w' →
    LeavesInM Fence.wide 0 P fn tmps (fun e w' => ∃ v H' L', e = .returned v ∧ St ⟨w, H0, L0.flatten⟩ H' (List.flatten L') w' ∧ post v H' L') (ds.map mk ++ [⟨.fn (.func g) cv.toArray, #[]⟩]) u w' := by
  intro ds
  induction ds with
  | nil =>
    intro w' hst
    simp only [List.map_nil, List.append_nil] at hst
    refine ⟨hu, .inr ⟨(fun h => by cases h), .func g, cv.toArray, g, cv.toArray, rfl, hinv w', (fun _ _ => trivial), ?_⟩⟩
    refine (hD w' hst).mono ?_
    rintro e u' w2 ⟨⟨r, rfl⟩, hset, H', L', v, L1, hst2, hsub, hres, hpost⟩
    show LeavesIn Fence.wide 0 P fn tmps _ [] (settle u') w2
    rw [hset]
    exact ⟨v, hres tmps w2 hs hst2.sat, v, H', L1, rfl, hst2.sub (sublist_flatten hsub), hpost⟩
  | cons D ds ih =>
    intro w' hst
    have hst1 : St ⟨w, H0, L0.flatten⟩ H ((D, Obj.deferred (some [])) :: (L.flatten ++ ds.map (fun D => (D, Obj.deferred (some []))))) w' := hst.perm (by
      simp only [List.map_cons]
      exact List.perm_middle)
    have hb := hst1.sat.l (D, Obj.deferred (some [])) (List.mem_cons_self ..)
    have hlt := heap_lt hb
    refine ⟨hu, .inl ⟨D, w'.putObj D (.deferred none), rfl, run_takeDeferred hb, ?_⟩⟩
    have hst2 : St ⟨w, H0, L0.flatten⟩ H ((D, Obj.deferred none) :: (L.flatten ++ ds.map (fun D => (D, Obj.deferred (some []))))) (w'.putObj D (.deferred none)) :=
      hst1.turn rfl rfl rfl (by simp [World.putObj]) (World.putObj_heap_same hlt) (fun c hc => World.putObj_heap_other (fun e => hc (by first | exact e | exact e.symm)))
    exact ih _ (hst2.sub (List.sublist_cons_self _ _))
theorem bodyD.of {P : Program} {fn : Func} {N g : Nat} {cv : List Value} {w : World} {H : Heap} {L : Own} {post : Value → Heap → Own → Prop} (hinv : ∀ w, (invoke (.fn (.func g) cv.toArray) #[]).run P w = .ok (.enter g cv.toArray) w) :
    ∀ e a w', lift ⟨P, N, none, [⟨.fn (.func g) cv.toArray, #[]⟩]⟩ ⟨w, H, L.flatten⟩ (fnPostD P fn N g cv ⟨w, H, L.flatten⟩ post) e a w' → bodyD P fn w H L post e a w' := by
  rintro e a w' ⟨σ', H', L', ds, hs, hd, hst, hq⟩
  cases e with
  | normal => show LeavesInM _ _ _ _ _ _ a.defers _ _; rw [hd]; exact leavesD (by simp) hinv hs hq ds w' hst
  | ret => show LeavesInM _ _ _ _ _ _ a.defers _ _; rw [hd]; exact leavesD (by simp) hinv hs hq ds w' hst
  | panic c => show LeavesInM _ _ _ _ _ _ a.defers _ _; rw [hd]; exact leavesD (by simp) hinv hs hq ds w' hst
  | _ => exact hq.elim
theorem bodyD.of0 {P : Program} {fn : Func} {N : Nat} {w : World} {H : Heap} {L : Own} {post : Value → Heap → Own → Prop} :
    ∀ e a w', lift ⟨P, N, none, []⟩ ⟨w, H, L.flatten⟩ (fnPost P fn N post) e a w' → bodyD P fn w H L post e a w' := by
  rintro e a w' ⟨σ', H', L', ds, hs, hd, hst, hq⟩
  replace hd : a.defers = ds.map mk := hd.trans (List.append_nil _)
  have key : ∀ (v : Value) (L1 : Own), List.Sublist L1 L' → resOk P fn N σ' H' L' v → post v H' L1 →
      LeavesInM Fence.wide 0 P fn a.tmps (fun e w' => ∃ v H' L', e = .returned v ∧ St ⟨w, H, L.flatten⟩ H' (List.flatten L') w' ∧ post v H' L') a.defers .returning w' := by
    intro v L1 hsub hv hp
    rw [hd]
    exact leaves_of hs hv (fun w2 h2 => ⟨v, H', L1, rfl, h2.sub (sublist_flatten hsub), hp⟩) ds w' hst
  cases e with
  | normal => obtain ⟨v, L1, h1, h2, h3⟩ := hq; exact key v L1 h1 h2 h3
  | ret => obtain ⟨v, L1, h1, h2, h3⟩ := hq; exact key v L1 h1 h2 h3
  | _ => exact hq.elim
theorem Fd.of_body {P : Program} {f : FuncId} {fn : Func} {c : Code} {N : Nat} {caps vs : List Value} {H : Heap} {L : Own} {post : Value → Heap → Own → Prop}
    (hf : P.funcs[f]? = some fn) (hb : fn.body = some c) (hname : (fn.name == "runtime.NumGoroutine") = false) (hN : fn.ntmps = N) (hle : Nat.ble (vs.length + caps.length) N = true)
    (h : ∀ w, TR ⟨P, N, none, []⟩ ⟨w, H, L.flatten⟩ c (bodyD P fn w H L post) (ent (vs ++ caps)) H L []) : Fc P (.func (.func f) #[] caps.toArray) vs H L post := by
  intro w hsat
  refine ⟨.enter f (vs ++ caps).toArray, w, ?_, ?_⟩
  · have he := Go.Proofs.enters_of (P := P) hf hname hb (vs ++ caps).toArray w
    simp [Deferred.ofValue, invoke, he]
  · refine callsIn_of_wp_marks hf hb trivial ?_
    have hs := sim_ent (N := N) (vs ++ caps) (by rw [List.length_append]; exact hle)
    rw [hN]
    exact h w _ w hs rfl (by have := St.init hsat; simpa [hid] using this)
section
variable {fr : Fr} {x : Cx} {Q : Post} {σ : Env} {H : Heap} {L : Own} {ds : List Nat} {ol rest : List Oper}
variable {d : Nat} {ty : TypeId} {p : String} {af : Array Edge} {g : Option (Nat × Bool)}
theorem eq_nilnil {P : Program} {t : TypeId} {ms : Array (String × TypeId)} (ht : P.underlying t = some (.interface ms)) (w : World) : (Op.equal t .nilIface .nilIface).run P w = .ok true w := by
  show (Op.equalIn (9999 + 1) t .nilIface .nilIface).run P w = _
  generalize 9999 = n
  simp [Op.equalIn, run_underlying ht]
theorem eq_ifnil {P : Program} {t u : TypeId} {v : Value} {ms : Array (String × TypeId)} (ht : P.underlying t = some (.interface ms)) (w : World) : (Op.equal t (.iface u v) .nilIface).run P w = .ok false w := by
  show (Op.equalIn (9999 + 1) t (.iface u v) .nilIface).run P w = _
  generalize 9999 = n
  simp [Op.equalIn, run_underlying ht]
theorem R.eqN {X : Operand} {t yt : TypeId} {ms : Array (String × TypeId)} (ht : fr.P.underlying t = some (.interface ms)) (hw : wan fr.N ol σ d g = true) (hx : ev σ X = .nilIface)
    (h : TL fr x ol rest Q (upd σ d (.bool true)) H L ds) : TL fr x ol (⟨some d, .binOp .eql t X (.const .nilIface) yt, ty, p, af, g⟩ :: rest) Q σ H L ds :=
  TL.pureE hw rfl (fun w => by
    have hy : ev σ (.const .nilIface) = .nilIface := rfl
    simp [execOp, eqGuard, hx, hy, binOp, eq_nilnil ht]) h
theorem R.eqI {X : Operand} {t yt u : TypeId} {v : Value} {ms : Array (String × TypeId)} (ht : fr.P.underlying t = some (.interface ms)) (hw : wan fr.N ol σ d g = true) (hx : ev σ X = .iface u v)
    (h : TL fr x ol rest Q (upd σ d (.bool false)) H L ds) : TL fr x ol (⟨some d, .binOp .eql t X (.const .nilIface) yt, ty, p, af, g⟩ :: rest) Q σ H L ds :=
  TL.pureE hw rfl (fun w => by
    have hy : ev σ (.const .nilIface) = .nilIface := rfl
    simp [execOp, eqGuard, hx, hy, binOp, eq_ifnil ht]) h
theorem R.tas {X : Operand} {t u : TypeId} {v : Value} {fs : Array Field} (ht : fr.P.underlying u = some (.struct fs)) (hw : wan fr.N ol σ d g = true) (hx : ev σ X = .iface u v)
    (h : TL fr x ol rest Q (upd σ d (.tuple #[v, .bool true])) H L ds) : TL fr x ol (⟨some d, .typeAssert X t u true, ty, p, af, g⟩ :: rest) Q σ H L ds :=
  TL.pureE hw rfl (fun w => by simp [execOp, Instr.typeAssert, hx, run_underlying ht]) h
end
theorem inv_of {P : Program} {g : Nat} (he : Go.Proofs.Enters P g) (cv : Array Value) (w : World) : (invoke (.fn (.func g) cv) #[]).run P w = .ok (.enter g cv) w := by
  have := he cv w
  simp [invoke, this]
theorem In.of_sub {L : Own} {c : Chunk} (h : List.Sublist [c] L) : In L c := by
  have h2 : c ∈ L := h.subset (List.mem_singleton.2 rfl)
  clear h
  induction L with
  | nil => cases h2
  | cons e L ih =>
    rcases List.mem_cons.1 h2 with rfl | h3
    · exact .hd
    · exact .tl (ih h3)
theorem resOk1 {P : Program} {fn : Func} {N : Nat} {σ : Env} {H : Heap} {L : Own} {r : ResultVar} {v : Value} (hr : fn.results = #[r]) (h1 : ResAt P σ H L r v) : resOk P fn N σ H L v := fun tmps w hs hsat => by
  rw [results_eq, hr]
  simp [h1.run hs hsat]
end Go.SX
namespace Go.SX
open Go Go.Proofs Go.Proofs.Tryz
abbrev wrongV : Value := .iface 114 (.agg #[])
abbrev wrongC : List PanicEntry := [{ v := wrongV, recovered := false }]
theorem check1_y {x : Cx} {w : World} {H : Heap} {b : Nat} {Lr : Own} (hst : St x H (List.flatten ([(b, .cells #[.int .i64 0] 34)] :: Lr)) w) :
    CallsDIn Fence.wide 0 Tryz.prog 53 ([.pointer (some ⟨b, 0, none⟩)] : List Value).toArray .returning w (fun e u'' w' => e = .returned (.tuple #[]) ∧ u'' = .returning ∧ ∃ H' L', St x H' (List.flatten L') w' ∧ List.Sublist [[(b, Obj.cells #[.int .i64 0] 34)]] L') := by
  refine CD.of_body (N := 10) (v := .nilIface) func53 rfl rfl rfl rfl rfl (.inl ⟨rfl, rfl, rfl⟩) hst ?_
  refine T.block ?_
  refine T.seq ?_
  refine T.region ?_
  refine R.eqN underlying20 rfl rfl ?_
  refine TL.nil (Post.thnN ?_)
  refine T.condY rfl ?_
  refine T.region ?_
  refine R.asE rfl (by conv => lhs; whnf) ?_
  refine TL.nil (Post.blkN ?_)
  exact ⟨rfl, List.Sublist.cons_cons _ (List.nil_sublist _)⟩
theorem check1_n {x : Cx} {w : World} {H : Heap} {b : Nat} {Lr : Own} (hst : St x H (List.flatten ([(b, .cells #[.int .i64 0] 34)] :: Lr)) w) :
    CallsDIn Fence.wide 0 Tryz.prog 53 ([.pointer (some ⟨b, 0, none⟩)] : List Value).toArray (.panicking wrongC) w (fun e u'' w' => e = .returned (.tuple #[]) ∧ u'' = .panicking [{ v := wrongV, recovered := true }] ∧ ∃ H' L', St x H' (List.flatten L') w' ∧ List.Sublist [[(b, Obj.cells #[.int .i64 290] 34)]] L') := by
  refine CD.of_body (N := 10) (v := wrongV) func53 rfl rfl rfl rfl rfl (.inr ⟨rfl, rfl⟩) hst ?_
  refine T.block ?_
  refine T.seq ?_
  refine T.region ?_
  refine R.eqI (u := 114) (v := .agg #[]) underlying20 rfl rfl ?_
  refine TL.nil (Post.thnN ?_)
  refine T.condN rfl ?_
  refine T.seq ?_
  refine T.region ?_
  refine R.tas (v := .agg #[]) underlying114 rfl rfl ?_
  refine R.ext rfl rfl rfl ?_
  refine R.ext rfl rfl rfl ?_
  refine TL.nil (Post.thnN ?_)
  refine T.condY rfl ?_
  refine T.seq ?_
  refine T.region ?_
  refine R.alloc zeroValue114 rfl ?_
  intro b2
  refine stY (l := []) (new := []) .hd sizeOf114 rfl rfl ?_
  refine TL.nil (Post.thnN ?_)
  refine T.region ?_
  refine R.st sizeOf34 rfl rfl rfl rfl (.tl .hd) ?_
  refine TL.nil (Post.blkN ?_)
  exact ⟨rfl, List.Sublist.cons _ (List.Sublist.cons_cons _ (List.nil_sublist _))⟩
end Go.SX
namespace Go.SX
open Go Go.Proofs Go.Proofs.Tryz
def k_15 (a0 : ZS) : Int := if k_3b a0 = true then 0 else 290
theorem k_9d (H : Heap) {tG0 : TypeId} (hG0 : gF H 0 tG0) {tG1 : TypeId} (hG1 : gA H 1 tG1) (a0 : ZS) (va0_25 : Value) (ha0_25 : RdS slotE H va0_25 a0.2.1.2.1) (va0_26 : Value) (ha0_26 : RdS (intE .i64) H va0_26 a0.2.1.2.2) (va0_27 : Value) (ha0_27 : RdS relationE H va0_27 a0.2.2.1) (va0_28 : Value) (ha0_28 : RdS rowE H va0_28 a0.2.2.2) (hS : StS a0) : Fv Tryz.prog (fnv 11) [.agg (c24 a0.1 [.int .i64 a0.2.1.1, va0_25, va0_26, va0_27, va0_28]).toArray] H (.int .i64 (k_15 a0)) := by
  have hinv := fun cv w => inv_of (Go.Proofs.enters_of (P := Tryz.prog) func53 rfl rfl) cv w
  refine Fd.of_body (N := 6) func11 rfl rfl rfl rfl ?_
  intro w0
  refine TR.seq (fun e ac w _ h => bodyD.of0 e ac w h) ?_
  refine T.region ?_
  refine R.box rfl rfl ?_
  intro b1
  refine R.alloc zeroValue34 rfl ?_
  intro b2
  refine TL.nil (Post.thnN ?_)
  refine TR.defer (cv := [.pointer (some ⟨b2, 0, none⟩)]) rfl rfl rfl (bodyD.of (hinv _)) ?_
  refine T.seq ?_
  refine T.region ?_
  refine R.ldX (cs := (c24 a0.1 [.int .i64 a0.2.1.1, va0_25, va0_26, va0_27, va0_28])) (l := (c24 a0.1 [.int .i64 a0.2.1.1, va0_25, va0_26, va0_27, va0_28])) isAgg31 sizeOf31 rfl rfl (.tl .hd) rfl rfl ?_
  refine TL.callz (ok := k_3b a0) rfl rfl rfl (state_look_c _ hG0 hG1 a0 _ (ha0_25) _ (ha0_26) _ (ha0_27) _ (ha0_28) hS) ?_ ?_
  · intro c H5 s5
    refine TL.nil (Post.thnN ?_)
    refine T.seq ?_
    refine T.region ?_
    refine R.st sizeOf34 rfl rfl rfl rfl .hd ?_
    refine TL.nil (Post.thnN ?_)
    refine T.ret ?_
    intro w' hst
    refine (check1_y hst).mono ?_
    rintro e u' w2 ⟨rfl, rfl, H', L', hst2, hsub⟩
    refine ⟨⟨_, rfl⟩, rfl, H', L', .int .i64 0, [], hst2, List.nil_sublist _, resOk1 rfl (.cell1 isAgg34 rfl (In.of_sub hsub) rfl), rfl, ?_⟩
    unfold k_15; rw [if_pos c]
  · intro c H5 s5
    refine Post.thnP ?_
    intro w' hst
    refine (check1_n hst).mono ?_
    rintro e u' w2 ⟨rfl, rfl, H', L', hst2, hsub⟩
    refine ⟨⟨_, rfl⟩, rfl, H', L', .int .i64 290, [], hst2, List.nil_sublist _, resOk1 rfl (.cell1 isAgg34 rfl (In.of_sub hsub) rfl), rfl, ?_⟩
    unfold k_15; rw [if_neg (by rw [c]; decide)]
end Go.SX
namespace Go.SX
open Go
theorem Fc.toFp {P : Program} {fv : Value} {vs : List Value} {H : Heap} {post : Value → Heap → Own → Prop} {post' : Value → Heap → Prop} (h : Fc P fv vs H [] post)
    (hp : ∀ v H' L', post v H' L' → ∀ H2, HLe H' H2 → (∀ q ∈ List.flatten L', H2 q.1 = some q.2) → post' v H2) : Fp P fv vs H post' := by
  intro w hsat
  refine (h w hsat).mono ?_
  rintro e w' ⟨v, H', L', rfl, hst, hq⟩
  have h0 : St ⟨w, H, List.flatten []⟩ H' (List.flatten [List.flatten L'] ++ []) w' := by simpa using hst
  obtain ⟨H2, h1, h2, h3⟩ := h0.shut .hd
  exact ⟨v, H2, [], rfl, by simpa using h3, rfl, hp v H' L' hq H2 h1 h2⟩
section
attribute [local semireducible] T TL Plan
variable {fr : Fr} {x : Cx} {Q : Post} {ds : List Nat} {ol : List Oper}
theorem Plan.s4 {n : Nat} {pend : List Nat} {σ : Env} {H : Heap} {L : Own} {o1 o2 o3 o4 : Oper} (i1 i2 i3 i4 : Nat) (p1 p2 p3 p4 : List Nat) (hr : pend.filter (vready ol pend) = [i1, i2, i3, i4]) (e1 : pend.erase i1 = p1) (e2 : pend.erase i2 = p2) (e3 : pend.erase i3 = p3) (e4 : pend.erase i4 = p4) (ho1 : nth ol i1 = some o1) (ho2 : nth ol i2 = some o2) (ho3 : nth ol i3 = some o3) (ho4 : nth ol i4 = some o4)
    (h1 : TL fr x ol [o1] (nextP ds (fun σ' H' L' => HLe H H' ∧ (∀ t, o1.dst ≠ some t → σ' t = σ t) ∧ Plan fr x ol Q ds n p1 σ' H' L')) σ H L ds)
    (h2 : TL fr x ol [o2] (nextP ds (fun σ' H' L' => HLe H H' ∧ (∀ t, o2.dst ≠ some t → σ' t = σ t) ∧ Plan fr x ol Q ds n p2 σ' H' L')) σ H L ds)
    (h3 : TL fr x ol [o3] (nextP ds (fun σ' H' L' => HLe H H' ∧ (∀ t, o3.dst ≠ some t → σ' t = σ t) ∧ Plan fr x ol Q ds n p3 σ' H' L')) σ H L ds)
    (h4 : TL fr x ol [o4] (nextP ds (fun σ' H' L' => HLe H H' ∧ (∀ t, o4.dst ≠ some t → σ' t = σ t) ∧ Plan fr x ol Q ds n p4 σ' H' L')) σ H L ds) : Plan fr x ol Q ds (n + 1) pend σ H L :=
  .inr (fun j hj hv => by
    have : j ∈ pend.filter (vready ol pend) := List.mem_filter.2 ⟨hj, hv⟩
    rw [hr] at this
    simp only [List.mem_cons, List.not_mem_nil, or_false] at this
    rcases this with rfl | rfl | rfl | rfl
    · exact ⟨o1, ho1, by rw [e1]; exact h1⟩
    · exact ⟨o2, ho2, by rw [e2]; exact h2⟩
    · exact ⟨o3, ho3, by rw [e3]; exact h3⟩
    · exact ⟨o4, ho4, by rw [e4]; exact h4⟩)
end
end Go.SX
namespace Go.SX
open Go Go.Proofs Go.Proofs.Tryz
theorem Tryz_ty29 : TyE Tryz.prog 29 47 rowE 56 := TyE.mk' (z := .agg #[.int .i64 0, .slice none 0 0, .slice none 0 0]) underlying29 (by kernel_rfl) rfl (by decide)
theorem k_30 : TyE Tryz.prog 45 64 (slE (intE .u64)) 24 := TyE.mk' (z := .slice none 0 0) underlying45 (by kernel_rfl) rfl (by decide)
def k_50 (a1 : (List Int) → ((List Int))) : List (List Int) → ((List (List Int))) → (List (List Int))
  | [], sl1 => sl1
  | yl1 :: ysl1, sl1 => LR.seq (a1 yl1) (fun r17 => k_50 a1 ysl1 ((sl1 ++ [r17])))
def k_8c (a0 : List (List Int)) (a1 : (List Int) → ((List Int))) : (List (List Int)) :=
  LR.seq (k_50 a1 a0 []) (fun ol1 => ol1)
theorem state_each_Value_c (H : Heap) (va0 : Value) (a0 : List (List Int)) (ha0 : RdS (slE (intE .u64)) H va0 a0) (b4 : Value) (a1 : (List Int) → ((List Int))) (ha1 : ∀ H', HLe H H' → ∀ (vz0 : Value) (z0 : List Int) (hz0 : RdS (intE .u64) H' vz0 z0), (z0.length ≤ 1000) → Fp Tryz.prog b4 [vz0] H' (fun v' H' => ∃ a6, v' = a6 ∧ RdS (intE .u64) H' a6 (a1 z0))) (na1 : b4.oneCell' = true) (hl : a0.length ≤ 1000) (hv : ∀ x ∈ a0, x.length ≤ 1000) : Fc Tryz.prog (fnv 133) [va0, b4] H [] (fun v' H' L' => ∃ a6 b7, v' = a6 ∧ L' = [b7] ∧ OwnS (slE (intE .u64)) 64 H' a6 (k_8c a0 a1) b7) := by
 refine Fc.of_body (N := 22) func133 rfl kA rfl rfl ?_
 intro w0
 obtain ⟨Aa0, ca0, rfl, hca0, hda0, ha0⟩ := ha0.shape
 refine sR (aA ?_)
 refine nN (sR (aA ?_))
 refine nN (T.seq (sR (mA ?_)))
 refine R.len underlying45 rfl rfl ?_
 refine mA ?_
 refine nN (T.block (T.loop (ι := Nat × Value × (List (List Int)) × Chunk) (fun ⟨a3, a7, a2, a4⟩ H' L' ds' => a3 ≤ a0.length ∧ Has L' [a4] ∧ OwnS (slE (intE .u64)) 64 H' a7 a2 a4 ∧ a2.length ≤ a3 ∧ k_50 a1 (a0.drop a3) a2 = k_50 a1 a0 []) (fun ⟨a3, a7, a2, a4⟩ => [(10, .int .i64 (a3 : Int)), (1, b4), (5, a7), (8, .slice Aa0 a0.length ca0), (9, .int .i64 (a0.length : Int))]) (fun ⟨a3, a7, a2, a4⟩ => a0.length - a3) (0, .slice none 0 0, [], []) ?_ ?_ ?_))
 exact ⟨oA, (Has.none Has.nil), OwnS.nil, bA, (by rfl)⟩
 exact ⟨rfl, rfl, rfl, rfl, rfl, trivial⟩
 intro ⟨a3, a7, a2, a4⟩ σ_l1 H_l1 L_l1 ds_l1 b1 a8
 obtain ⟨hkl1, a8⟩ := a8
 obtain ⟨hLl1, b2, hBl1_0, b8⟩ := a8
 obtain ⟨b9, c0, rfl, m5l1, n5l1_⟩ := OwnS.shape b2
 refine T.has hLl1 ?_
 refine sR (R.lss rfl rfl rfl ?_)
 refine nN (T.seq (T.condD rfl (fun c11 => ?_) (fun c11 => ?_)))
 have hltl1 : a3 < a0.length := by omega
 obtain ⟨yl1, b3⟩ := getk (xs := a0) (k := a3) oA
 refine T.skip (Post.thnN (T.seq ?_))
 refine T.block (sR ?_)
 obtain ⟨b12, o12, i12, k12⟩ := RdS.elem (ha0.mono b1) b3
 obtain ⟨l12, g12, k12⟩ := k12
 obtain ⟨z12_0, rfl, a9⟩ := g12
 obtain ⟨A12_0, p12_0, rfl, m12_0, n12_0, a9⟩ := a9.shape
 refine R.ixp underlying45 sizeOf64 rfl rfl rfl oA i12 ?_
 refine R.ldC isAgg64 rfl rfl (k12 0 _ rfl) ?_
 refine aA ?_
 refine nN (T.region (mA ?_))
 refine mA ?_
 refine mA ?_
 obtain ⟨b0, c1⟩ : ∃ r, r = (a1 yl1) := ⟨_, rfl⟩
 refine R.callp rfl rfl rfl (ha1 _ b1 _ yl1 a9 (by exact hv _ (List.mem_of_getElem? b3))) ?_
 intro v17 H17 s17 q17
 rw [← c1] at q17
 obtain ⟨c2, rfl, a5⟩ := q17
 obtain ⟨b5, b6, rfl, c3, c4, a5⟩ := RdS.shape a5
 refine R.bs rfl (k_4 underlying45 sizeOf64 zeroValue64 rfl rfl) ?_
 intro b18
 have w18 := lit1 (E := (slE (intE .u64))) (e := 64) (H := H17) (b := b18) (y := b0) (a := [.slice b5 b0.length b6]) ⟨_, rfl, a5⟩
 obtain ⟨k19, y19, r19⟩ := Src.ownA w18
 refine R.app (E := (slE (intE .u64))) (e := 64) (xs := a2) (ys := [b0]) k_30 rfl rfl rfl (OwnS.mono b2 s17) (.tl .hd) (r19 _ .hd) y19 lA lA ?_
 intro v19 c19 w19
 obtain ⟨A19, p19, rfl, m19, n19⟩ := OwnS.shape w19
 refine TL.del (.tl .hd) ?_
 refine aA ?_
 refine TL.nil (Post.blkN ?_)
 refine id (Post.thnN (T.region ?_))
 refine R.addI rfl rfl rfl oA ?_
 refine mA ?_
 refine nN ?_
 exact ⟨(a3 + 1, sl A19 (a2 ++ [b0]) p19, (a2 ++ [b0]), c19), (b1.trans s17), ⟨oA, (Has.cons .hd Has.nil), w19, bA, (by subst c1; rw [← b8, k_8 b3, k_50]; rw [LR.seq_go])⟩, by show a0.length - (a3 + 1) < a0.length - a3; omega, rfl, rfl, rfl, rfl, rfl, trivial⟩
 refine T.exit (Post.thnE (Post.thnE (Post.blkX ?_)))
 have hEl1 : k_50 a1 a0 [] = a2 := (b8.symm.trans (by rw [show a3 = a0.length by omega, List.drop_length, k_50]))
 refine id (Post.thnN (sR ?_))
 refine mA ?_
 refine aA ?_
 refine nN (T.has (Has.cons .hd Has.nil) ?_)
 refine T.ret ?_
 have hM : k_8c a0 a1 = a2 := by rw [k_8c, hEl1, LR.seq_go]
 exact fin1L (v := sl b9 a2 c0) [a4] rfl rfl (List.Sublist.refl _) ⟨sl b9 a2 c0, a4, by first | rw [hM] | rfl, rfl, by rw [hM]; exact b2⟩
def k_38 (a1 : (ZR) → ((ZR))) : List (ZR) → ((List (ZR))) → (List (ZR))
  | [], sl1 => sl1
  | yl1 :: ysl1, sl1 => LR.seq (a1 yl1) (fun r17 => k_38 a1 ysl1 ((sl1 ++ [r17])))
def k_5d (a0 : List (ZR)) (a1 : (ZR) → ((ZR))) : (List (ZR)) :=
  LR.seq (k_38 a1 a0 []) (fun ol1 => ol1)
theorem state_each_Row_c (H : Heap) (va0 : Value) (a0 : List (ZR)) (ha0 : RdS rowE H va0 a0) (c6 : Value) (a1 : (ZR) → ((ZR))) (ha1 : ∀ H', HLe H H' → ∀ (z0 : ZR) (c7 : Value) (hz0_1 : RdS (intE .u64) H' c7 z0.2.1) (c8 : Value) (hz0_2 : RdS (slE (intE .u64)) H' c8 z0.2.2), (z0 ∈ a0) → Fp Tryz.prog c6 [.agg #[.int .i64 z0.1, c7, c8]] H' (fun v' H' => ∃ c9 d0, v' = .agg #[.int .i64 (a1 z0).1, c9, d0] ∧ RdS (intE .u64) H' c9 (a1 z0).2.1 ∧ RdS (slE (intE .u64)) H' d0 (a1 z0).2.2)) (na1 : c6.oneCell' = true) (hl : a0.length ≤ 100000) : Fc Tryz.prog (fnv 100) [va0, c6] H [] (fun v' H' L' => ∃ d1 d2, v' = d1 ∧ L' = [d2] ∧ OwnS rowE 47 H' d1 (k_5d a0 a1) d2) := by
 refine Fc.of_body (N := 22) func100 rfl kA rfl rfl ?_
 intro w0
 obtain ⟨Aa0, ca0, rfl, hca0, hda0, ha0⟩ := ha0.shape
 refine sR (aA ?_)
 refine nN (sR (aA ?_))
 refine nN (T.seq (sR (mA ?_)))
 refine R.len underlying29 rfl rfl ?_
 refine mA ?_
 refine nN (T.block (T.loop (ι := Nat × Value × (List (ZR)) × Chunk) (fun ⟨a4, b4, a3, b0⟩ H' L' ds' => a4 ≤ a0.length ∧ Has L' [b0] ∧ OwnS rowE 47 H' b4 a3 b0 ∧ a3.length ≤ a4 ∧ k_38 a1 (a0.drop a4) a3 = k_38 a1 a0 []) (fun ⟨a4, b4, a3, b0⟩ => [(10, .int .i64 (a4 : Int)), (1, c6), (5, b4), (8, .slice Aa0 a0.length ca0), (9, .int .i64 (a0.length : Int))]) (fun ⟨a4, b4, a3, b0⟩ => a0.length - a4) (0, .slice none 0 0, [], []) ?_ ?_ ?_))
 exact ⟨oA, (Has.none Has.nil), OwnS.nil, bA, (by rfl)⟩
 exact ⟨rfl, rfl, rfl, rfl, rfl, trivial⟩
 intro ⟨a4, b4, a3, b0⟩ σ_l1 H_l1 L_l1 ds_l1 c3 c0
 obtain ⟨hkl1, c0⟩ := c0
 obtain ⟨hLl1, c4, hBl1_0, d3⟩ := c0
 obtain ⟨d4, d5, rfl, m5l1, n5l1_⟩ := OwnS.shape c4
 refine T.has hLl1 ?_
 refine sR (R.lss rfl rfl rfl ?_)
 refine nN (T.seq (T.condD rfl (fun c11 => ?_) (fun c11 => ?_)))
 have hltl1 : a4 < a0.length := by omega
 obtain ⟨a2, c5⟩ := getk (xs := a0) (k := a4) oA
 refine T.skip (Post.thnN (T.seq ?_))
 refine T.block (sR ?_)
 obtain ⟨b12, o12, i12, k12⟩ := RdS.elem (ha0.mono c3) c5
 obtain ⟨l12, g12, k12⟩ := k12
 obtain ⟨z12_1, z12_2, rfl, c1, c2⟩ := g12
 obtain ⟨a5, a6, rfl, m12_1, n12_1, c1⟩ := c1.shape
 obtain ⟨a7, a8, rfl, m12_2, n12_2, c2⟩ := c2.shape
 refine R.ixp underlying29 sizeOf47 rfl rfl rfl oA i12 ?_
 refine R.ldK (l := [.int .i64 (a2.1), sl a5 a2.2.1 a6, sl a7 a2.2.2 a8]) isAgg47 sizeOf47 rfl rfl k12 rfl ?_
 refine R.alloc zeroValue47 rfl ?_
 intro b7
 refine stY (l := [.int .i64 (a2.1), sl a5 a2.2.1 a6, sl a7 a2.2.2 a8]) (new := [.int .i64 (a2.1), sl a5 a2.2.1 a6, sl a7 a2.2.2 a8]) .hd sizeOf47 rfl rfl ?_
 refine TL.shut .hd ?_
 intro d7 b1 d8
 have d9 : d7 b7 = some (.cells #[.int .i64 (a2.1), .slice a5 a2.2.1.length a6, .slice a7 a2.2.2.length a8] 47) := shut1 d8
 refine nN (T.region (mA ?_))
 refine mA ?_
 refine R.ldXH (cs := [.int .i64 (a2.1), sl a5 a2.2.1 a6, sl a7 a2.2.2 a8]) (l := [.int .i64 (a2.1), sl a5 a2.2.1 a6, sl a7 a2.2.2 a8]) isAgg47 sizeOf47 rfl rfl d9 rfl rfl ?_
 obtain ⟨a9, d6⟩ : ∃ r, r = (a1 a2) := ⟨_, rfl⟩
 refine R.callp rfl rfl rfl (ha1 _ (c3.trans b1) a2 _ (c1.mono b1) _ (c2.mono b1) (by exact List.mem_of_getElem? c5)) ?_
 intro v17 H17 s17 q17
 rw [← d6] at q17
 obtain ⟨e0, e1, rfl, b2, b3⟩ := q17
 obtain ⟨b5, b6, rfl, e2, e3, b2⟩ := RdS.shape b2
 obtain ⟨b8, b9, rfl, e4, e5, b3⟩ := RdS.shape b3
 refine R.bs (e := 47) (cs := [.int .i64 (a9.1), sl b5 a9.2.1 b6, sl b8 a9.2.2 b9]) rfl (fun _ => by kernel_rfl) ?_
 intro b18
 have w18 := lit1 (E := rowE) (e := 47) (H := H17) (b := b18) (y := a9) (a := [.int .i64 (a9.1), .slice b5 a9.2.1.length b6, .slice b8 a9.2.2.length b9]) ⟨_, _, rfl, b2, b3⟩
 obtain ⟨k19, y19, r19⟩ := Src.ownA w18
 refine R.app (E := rowE) (e := 47) (xs := a3) (ys := [a9]) Tryz_ty29 rfl rfl rfl (OwnS.mono c4 (b1.trans s17)) (.tl .hd) (r19 _ .hd) y19 lA lA ?_
 intro v19 c19 w19
 obtain ⟨A19, p19, rfl, m19, n19⟩ := OwnS.shape w19
 refine TL.del (.tl .hd) ?_
 refine aA ?_
 refine TL.nil (Post.blkN ?_)
 refine id (Post.thnN (T.region ?_))
 refine R.addI rfl rfl rfl oA ?_
 refine mA ?_
 refine nN ?_
 exact ⟨(a4 + 1, sl A19 (a3 ++ [a9]) p19, (a3 ++ [a9]), c19), (c3.trans (b1.trans s17)), ⟨oA, (Has.cons .hd Has.nil), w19, bA, (by subst d6; rw [← d3, k_8 c5, k_38]; rw [LR.seq_go])⟩, by show a0.length - (a4 + 1) < a0.length - a4; omega, rfl, rfl, rfl, rfl, rfl, trivial⟩
 refine T.exit (Post.thnE (Post.thnE (Post.blkX ?_)))
 have hEl1 : k_38 a1 a0 [] = a3 := (d3.symm.trans (by rw [show a4 = a0.length by omega, List.drop_length, k_38]))
 refine id (Post.thnN (sR ?_))
 refine mA ?_
 refine aA ?_
 refine nN (T.has (Has.cons .hd Has.nil) ?_)
 refine T.ret ?_
 have hM : k_5d a0 a1 = a3 := by rw [k_5d, hEl1, LR.seq_go]
 exact fin1L (v := sl d4 a3 d5) [b0] rfl rfl (List.Sublist.refl _) ⟨sl d4 a3 d5, b0, by first | rw [hM] | rfl, rfl, by rw [hM]; exact c4⟩
def k_7c (a0 : List Int) : (List Int) :=
  a0
theorem state_ownRow_1_c (H : Heap) (va0 : Value) (a0 : List Int) (ha0 : RdS (intE .u64) H va0 a0) (h1 : a0.length ≤ 1000) : Fc Tryz.prog (fnv 134) [va0] H [] (fun v' H' L' => ∃ a1 a2, v' = a1 ∧ L' = [a2] ∧ OwnS (intE .u64) 38 H' a1 (k_7c a0) a2) := by
 refine Fc.of_body (N := 5) func134 rfl kA rfl rfl ?_
 intro w0
 obtain ⟨Aa0, ca0, rfl, hca0, hda0, ha0⟩ := ha0.shape
 refine sR (aA ?_)
 refine nN (sR (mA ?_))
 refine TL.call [] rfl rfl rfl (clone64_c _ _ a0 ha0 bA) ?_
 intro v4 H4 L4 s4 q4
 obtain ⟨c4, rfl, w4⟩ := q4
 obtain ⟨x4, e4⟩ : ∃ x, x = a0 := ⟨_, rfl⟩
 rw [← e4] at w4
 obtain ⟨A4, p4, rfl, m4, n4⟩ := OwnS.shape w4
 have t4 : x4.length = a0.length := by rw [e4]
 refine aA ?_
 refine nN (T.has (Has.cons .hd Has.nil) ?_)
 refine T.ret ?_
 have hM : k_7c a0 = x4 := by subst e4; rw [k_7c]
 exact fin1L (v := sl A4 x4 p4) [c4] rfl rfl (List.Sublist.refl _) ⟨sl A4 x4 p4, c4, by first | rw [hM] | rfl, rfl, by rw [hM]; exact w4⟩
def k_66 (a0 : ZR) : (ZR) :=
  LR.seq (k_8c a0.2.2 ((fun z0 => k_7c z0))) (fun r10 => (a0.1, a0.2.1, r10))
theorem state_ownRow_c (H : Heap) (a0 : ZR) (a9 : Value) (a6 : RdS (intE .u64) H a9 a0.2.1) (b0 : Value) (a7 : RdS (slE (intE .u64)) H b0 a0.2.2) (hR : RowS a0) : Fc Tryz.prog (fnv 58) [.agg #[.int .i64 a0.1, a9, b0]] H [] (fun v' H' L' => ∃ b4 b5 b6 b7, v' = .agg #[.int .i64 (k_66 a0).1, b4, b5] ∧ L' = [b6, b7] ∧ OwnS (intE .u64) 39 H' b4 (k_66 a0).2.1 b6 ∧ OwnS (slE (intE .u64)) 64 H' b5 (k_66 a0).2.2 b7) := by
 refine Fc.of_body (N := 12) func58 rfl kA rfl rfl ?_
 intro w0
 obtain ⟨b9, c0, rfl, hca0_1, hda0_1, a6⟩ := a6.shape
 obtain ⟨c1, c2, rfl, hca0_2, hda0_2, a7⟩ := a7.shape
 have hr1 := hR.t
 have hr2 := hR.v
 refine sR (R.box rfl cA ?_)
 intro b1
 refine R.alloc zeroValue47 rfl ?_
 intro b2
 refine TL.shut (.tl .hd) ?_
 intro c3 b3 c4
 have a8 : c3 b1 = some (.cells #[.int .i64 (a0.1), .slice b9 a0.2.1.length c0, .slice c1 a0.2.2.length c2] 47) := shut1 c4
 refine nN (T.seq (T.draw k_2f kA ?_))
 refine vP 0 [1, 2, 3, 4, 5, 6, 7, 8, 9] rfl underlying47 rfl sizeOf3 ?_
 refine vA 1 [2, 3, 4, 5, 6, 7, 8, 9] rfl (fun _ _ h_ => R.ldH isAgg3 rfl rfl a8 rfl (TL.nil h_)) ?_
 refine vP 2 [3, 4, 5, 6, 7, 8, 9] rfl underlying47 rfl sizeOf44 ?_
 refine vA 3 [4, 5, 6, 7, 8, 9] rfl (fun _ _ h_ => R.ldH isAgg44 rfl rfl a8 rfl (TL.nil h_)) ?_
 refine vP 5 [4, 6, 7, 8, 9] rfl underlying47 rfl sizeOf45 ?_
 refine vA 6 [4, 7, 8, 9] rfl (fun _ _ h_ => R.ldH isAgg45 rfl rfl a8 rfl (TL.nil h_)) ?_
 refine Plan.s1 4 [7, 8, 9] kA kA rfl ?_
 refine TL.call [] rfl rfl rfl (clone44_c _ _ a0.2.1 (a6.mono b3) bA) ?_
 intro v7 H7 L7 s7 q7
 obtain ⟨c7, rfl, w7⟩ := q7
 obtain ⟨x7, e7⟩ : ∃ x, x = a0.2.1 := ⟨_, rfl⟩
 rw [← e7] at w7
 obtain ⟨A7, p7, rfl, m7, n7⟩ := OwnS.shape w7
 have t7 : x7.length = a0.2.1.length := by rw [e7]
 refine TL.nil (Plan.e1 (s7) ?_)
 refine Plan.s1 7 [8, 9] kA kA rfl ?_
 obtain ⟨a4, b8⟩ : ∃ r, r = (k_8c a0.2.2 ((fun z0 => k_7c z0))) := ⟨_, rfl⟩
 refine TL.call [] rfl rfl rfl (state_each_Value_c _ _ a0.2.2 (a7.mono (b3.trans s7)) _ (fun z0 => k_7c z0) (fun H2 h2 vz0 z0 hz0 hpre => Fc.toFp (state_ownRow_1_c H2 vz0 z0 hz0 oA) (fun v_ H_ L_ x_ H3_ l_ k_ => by obtain ⟨u0_0, c0_0, rfl, rfl, w0_0⟩ := x_; exact ⟨_, rfl, w0_0.read l_ (fun q_ m_ => k_ q_ (by simp [m_]))⟩)) rfl oA hR.w) ?_
 intro v10 H10 L10 s10 q10
 rw [← b8] at q10
 obtain ⟨c5, a3, rfl, rfl, a5⟩ := q10
 obtain ⟨a1, a2, rfl, c6, c8⟩ := OwnS.shape a5
 refine TL.nil (Plan.e1 (s10) ?_)
 refine vA 8 [9] rfl (fun _ _ h_ => R.bld (cs := [.int .i64 (a0.1), sl A7 x7 p7, sl a1 a4 a2]) rfl (fun _ => by kernel_rfl) (TL.nil h_)) ?_
 refine Plan.s1 9 [] kA kA rfl ?_
 refine stY (l := [.int .i64 (a0.1), sl A7 x7 p7, sl a1 a4 a2]) (new := [.int .i64 (a0.1), sl A7 x7 p7, sl a1 a4 a2]) (.tl (.tl .hd)) sizeOf47 rfl rfl ?_
 refine eB ?_
 refine Plan.done (Post.thnN ?_)
 refine T.has (Has.cons (.tl .hd) (Has.cons .hd (Has.cons .hd Has.nil))) ?_
 refine T.ret ?_
 have hM : k_66 a0 = (a0.1, x7, a4) := by subst b8; subst e7; rw [k_66, LR.seq_go]
 exact finR1 (v := .agg #[.int .i64 (a0.1), sl A7 x7 p7, sl a1 a4 a2]) [c7, a3] rfl (.cellA (cs := [.int .i64 (a0.1), sl A7 x7 p7, sl a1 a4 a2]) (l := [.int .i64 (a0.1), sl A7 x7 p7, sl a1 a4 a2]) isAgg47 sizeOf47 rfl (.tl (.tl .hd)) rfl rfl) (List.sublist_append_left ([c7, a3] : Own) _) ⟨sl A7 x7 p7, sl a1 a4 a2, c7, a3, by first | rw [hM] | rfl, rfl, by rw [hM]; exact (OwnS.mono w7 s10), by rw [hM]; exact a5⟩
def k_2d (a0 : ZS) : (ZS) :=
  LR.seq ((a0.2.1.2.1, a0.2.1.2.2, a0.2.2.1) : (List (Int × Bool)) × (List Int) × (List (ZL))) (fun sc1 => LR.seq (k_5d a0.2.2.2 ((fun z0 => k_66 z0))) (fun r21 => ((a0.1, (a0.2.1.1, sc1.1, sc1.2.1), sc1.2.2, r21) : ZS)))
theorem each_V_l1 : ∀ (l a : List (List Int)), k_50 (fun z0 => k_7c z0) l a = a ++ l
  | [], a => by simp [k_50]
  | y :: ys, a => by rw [k_50, LR.seq_go, each_V_l1 ys, show k_7c y = y from rfl]; simp
theorem ownRow_id (r : Rw) : k_66 r = r := by
  unfold k_66 k_8c
  simp only [LR.seq_go]
  rw [each_V_l1, List.nil_append]
theorem each_R_l1 : ∀ (l a : List Rw), k_38 (fun z0 => k_66 z0) l a = a ++ l
  | [], a => by simp [k_38]
  | y :: ys, a => by rw [k_38, LR.seq_go, each_R_l1 ys, ownRow_id]; simp
end Go.SX
namespace Go.SX
open Go
attribute [local semireducible] T TL
def rawE (k : Nat) : ER (List Value) where
  size := k
  R := fun _ cs x => cs = x ∧ cs.length = k ∧ ∀ v ∈ cs, v.oneCell' = true
  len := fun h => h.2.1
  mono := fun _ h => h
  one := fun h => h.2.2
structure ED {α : Type} (E : ER α) where
  R : Heap → List Value → α → Chunk → Prop
  mono : ∀ {H H' cs x c}, HLe H H' → R H cs x c → R H' cs x c
  read : ∀ {H H' cs x c}, R H cs x c → HLe H H' → (∀ q ∈ c, H' q.1 = some q.2) → E.R H' cs x
  raw : ∀ {H cs x c}, R H cs x c → cs.length = E.size ∧ ∀ v ∈ cs, v.oneCell' = true
def DeepL {α : Type} {E : ER α} (D : ED E) (H : Heap) : List (List Value) → List α → List Chunk → Prop
  | [], [], [] => True
  | r :: rs, x :: xs, c :: cs => D.R H r x c ∧ DeepL D H rs xs cs
  | _, _, _ => False
def Deep {α : Type} {E : ER α} (D : ED E) (H : Heap) (raws : List (List Value)) (xs : List α) (cd : Chunk) : Prop := ∃ cc, cd.Perm (List.flatten cc) ∧ DeepL D H raws xs cc
section
variable {α : Type} {E : ER α} {D : ED E} {H H' : Heap}
theorem DeepL.mono (hl : HLe H H') : ∀ {raws : List (List Value)} {xs : List α} {cc : List Chunk}, DeepL D H raws xs cc → DeepL D H' raws xs cc
  | [], [], [], _ => trivial
  | r :: rs, x :: xs, c :: cs, h => ⟨D.mono hl h.1, DeepL.mono hl h.2⟩
  | [], [], _ :: _, h => h.elim
  | [], _ :: _, _, h => h.elim
  | _ :: _, [], _, h => h.elim
  | _ :: _, _ :: _, [], h => h.elim
theorem DeepL.snoc {r : List Value} {x : α} {c : Chunk} (hr : D.R H r x c) : ∀ {raws : List (List Value)} {xs : List α} {cc : List Chunk}, DeepL D H raws xs cc → DeepL D H (raws ++ [r]) (xs ++ [x]) (cc ++ [c])
  | [], [], [], _ => ⟨hr, trivial⟩
  | _ :: _, _ :: _, _ :: _, h => ⟨h.1, DeepL.snoc hr h.2⟩
  | [], [], _ :: _, h => h.elim
  | [], _ :: _, _, h => h.elim
  | _ :: _, [], _, h => h.elim
  | _ :: _, _ :: _, [], h => h.elim
theorem DeepL.len : ∀ {raws : List (List Value)} {xs : List α} {cc : List Chunk}, DeepL D H raws xs cc → raws.length = xs.length
  | [], [], [], _ => rfl
  | _ :: _, _ :: _, _ :: _, h => congrArg (· + 1) (DeepL.len h.2)
  | [], [], _ :: _, h => h.elim
  | [], _ :: _, _, h => h.elim
  | _ :: _, [], _, h => h.elim
  | _ :: _, _ :: _, [], h => h.elim
theorem DeepL.at : ∀ {raws : List (List Value)} {xs : List α} {cc : List Chunk} (i : Nat) {x : α}, DeepL D H raws xs cc → xs[i]? = some x → ∃ r c A B, raws[i]? = some r ∧ cc = A ++ c :: B ∧ D.R H r x c ∧
    ∀ H' r' x' c', HLe H H' → D.R H' r' x' c' → DeepL D H' (raws.set i r') (xs.set i x') (A ++ c' :: B)
  | [], [], [], i, x, _, h => by simp at h
  | r :: rs, y :: xs, c :: cs, 0, x, h, hx => by
    obtain rfl : y = x := by simpa using hx
    exact ⟨r, c, [], cs, rfl, rfl, h.1, fun H' r' x' c' hl h' => ⟨h', DeepL.mono hl h.2⟩⟩
  | r :: rs, y :: xs, c :: cs, i + 1, x, h, hx => by
    obtain ⟨r1, c1, A, B, h1, h2, h3, h4⟩ := DeepL.at i h.2 (by simpa using hx)
    exact ⟨r1, c1, c :: A, B, by simpa using h1, by rw [h2]; rfl, h3, fun H' r' x' c' hl h' => ⟨D.mono hl h.1, h4 H' r' x' c' hl h'⟩⟩
  | [], [], _ :: _, _, _, h, _ => h.elim
  | [], _ :: _, _, _, _, h, _ => h.elim
  | _ :: _, [], _, _, _, h, _ => h.elim
  | _ :: _, _ :: _, [], _, _, h, _ => h.elim
theorem Deep.nil : Deep D H [] [] [] := ⟨[], List.Perm.refl _, trivial⟩
theorem Deep.mono {raws : List (List Value)} {xs : List α} {cd : Chunk} (h : Deep D H raws xs cd) (hl : HLe H H') : Deep D H' raws xs cd := by
  obtain ⟨cc, h1, h2⟩ := h; exact ⟨cc, h1, h2.mono hl⟩
theorem Deep.len {raws : List (List Value)} {xs : List α} {cd : Chunk} (h : Deep D H raws xs cd) : raws.length = xs.length := by
  obtain ⟨cc, h1, h2⟩ := h; exact h2.len
theorem Deep.snoc {raws : List (List Value)} {xs : List α} {cd c : Chunk} {r : List Value} {x : α} (h : Deep D H raws xs cd) (hr : D.R H r x c) : Deep D H (raws ++ [r]) (xs ++ [x]) (cd ++ c) := by
  obtain ⟨cc, h1, h2⟩ := h
  refine ⟨cc ++ [c], ?_, h2.snoc hr⟩
  rw [List.flatten_append]
  simpa using h1.append_right c
theorem Deep.at {raws : List (List Value)} {xs : List α} {cd : Chunk} (h : Deep D H raws xs cd) {i : Nat} {x : α} (hx : xs[i]? = some x) : ∃ r c rest, raws[i]? = some r ∧ cd.Perm (c ++ rest) ∧ D.R H r x c ∧
    ∀ H' r' x' c', HLe H H' → D.R H' r' x' c' → Deep D H' (raws.set i r') (xs.set i x') (c' ++ rest) := by
  obtain ⟨cc, h1, h2⟩ := h
  obtain ⟨r, c, A, B, h3, rfl, h4, h5⟩ := h2.at i hx
  refine ⟨r, c, A.flatten ++ B.flatten, h3, ?_, h4, fun H' r' x' c' hl h' => ⟨A ++ c' :: B, ?_, h5 H' r' x' c' hl h'⟩⟩
  · refine h1.trans ?_
    rw [List.flatten_append, List.flatten_cons, ← List.append_assoc, ← List.append_assoc]
    exact List.perm_append_comm.append_right _
  · rw [List.flatten_append, List.flatten_cons, ← List.append_assoc, ← List.append_assoc]
    exact List.perm_append_comm.append_right _
theorem DeepL.all : ∀ {raws : List (List Value)} {xs : List α} {cc : List Chunk}, DeepL D H raws xs cc → HLe H H' → (∀ q ∈ cc.flatten, H' q.1 = some q.2) → ∀ (i : Nat) (r : List Value) (x : α), raws[i]? = some r → xs[i]? = some x → E.R H' r x
  | [], [], [], _, _, _, i, r, x, h, _ => by simp at h
  | r0 :: rs, x0 :: xs, c :: cs, h, hl, hq, i, r, x, hr, hx => by
    cases i with
    | zero =>
      obtain rfl : r0 = r := by simpa using hr
      obtain rfl : x0 = x := by simpa using hx
      exact D.read h.1 hl (fun q hm => hq q (by rw [List.flatten_cons]; exact List.mem_append_left _ hm))
    | succ i => exact DeepL.all h.2 hl (fun q hm => hq q (by rw [List.flatten_cons]; exact List.mem_append_right _ hm)) i r x (by simpa using hr) (by simpa using hx)
  | [], [], _ :: _, h, _, _, _, _, _, _, _ => h.elim
  | [], _ :: _, _, h, _, _, _, _, _, _, _ => h.elim
  | _ :: _, [], _, h, _, _, _, _, _, _, _ => h.elim
  | _ :: _, _ :: _, [], h, _, _, _, _, _, _, _ => h.elim
theorem OwnS.deepRead {e : TypeId} {v : Value} {raws : List (List Value)} {xs : List α} {c0 cd : Chunk} (ho : OwnS (rawE E.size) e H v raws c0) (hd : Deep D H raws xs cd) (hl : HLe H H') (h0 : ∀ q ∈ c0, H' q.1 = some q.2) (h1 : ∀ q ∈ cd, H' q.1 = some q.2) : RdS E H' v xs := by
  have hr := ho.read hl h0
  obtain ⟨cc, hp, hd⟩ := hd
  have hlen := hd.len
  obtain ⟨A, cap, rfl, h2, h3, h4⟩ := hr
  refine ⟨A, cap, by rw [hlen], by omega, h3, fun i x hx => ?_⟩
  have hi : i < raws.length := by rw [hlen]; exact (List.getElem?_eq_some_iff.1 hx).1
  obtain ⟨b, o, h5, l, h6, h7⟩ := h4 i _ (List.getElem?_eq_getElem hi)
  obtain ⟨rfl, _, _⟩ := h6
  exact ⟨b, o, h5, _, hd.all hl (fun q hm => h1 q (hp.mem_iff.2 hm)) i _ x (List.getElem?_eq_getElem hi) hx, h7⟩
theorem TL.mrg {fr : Fr} {x : Cx} {Q : Post} {σ : Env} {L L1 L2 : Own} {ds : List Nat} {ol l : List Oper} {a b : Chunk} (h1 : Del L a L1) (h2 : Del L1 b L2) (h : TL fr x ol l Q σ H ((a ++ b) :: L2) ds) : TL fr x ol l Q σ H L ds := by
  refine TL.permL (L' := (a ++ b) :: L2) ?_ h
  refine h1.perm.trans ((h2.perm.append_left a).trans ?_)
  rw [List.flatten_cons, List.append_assoc]
end
def OwnD {α : Type} {E : ER α} (D : ED E) (e : TypeId) (H : Heap) (v : Value) (xs : List α) (C : Chunk) : Prop :=
  ∃ raws c0 cd, C = c0 ++ cd ∧ OwnS (rawE E.size) e H v raws c0 ∧ Deep D H raws xs cd
section
variable {α : Type} {E : ER α} {D : ED E} {e : TypeId} {H H' : Heap} {v : Value} {xs : List α} {C : Chunk}
theorem OwnD.nil : OwnD D e H (.slice none 0 0) [] [] := ⟨[], [], [], rfl, OwnS.nil, Deep.nil⟩
theorem OwnD.mono (h : OwnD D e H v xs C) (hl : HLe H H') : OwnD D e H' v xs C := by
  obtain ⟨raws, c0, cd, h1, h2, h3⟩ := h; exact ⟨raws, c0, cd, h1, h2.mono hl, h3.mono hl⟩
theorem OwnD.shape (h : OwnD D e H v xs C) : ∃ A cap, v = .slice A xs.length cap ∧ xs.length ≤ cap ∧ cap ≤ 9223372036854775807 := by
  obtain ⟨raws, c0, cd, h1, h2, h3⟩ := h
  obtain ⟨A, cap, h4, h5, h6⟩ := h2.shape
  rw [h3.len] at h4 h5
  exact ⟨A, cap, h4, h5, h6⟩
theorem OwnD.read (h : OwnD D e H v xs C) (hl : HLe H H') (hc : ∀ q ∈ C, H' q.1 = some q.2) : RdS E H' v xs := by
  obtain ⟨raws, c0, cd, rfl, h2, h3⟩ := h
  exact h2.deepRead h3 hl (fun q hq => hc q (List.mem_append_left _ hq)) (fun q hq => hc q (List.mem_append_right _ hq))
end
section
variable {fr : Fr} {x : Cx} {Q : Post} {σ : Env} {H : Heap} {L : Own} {ds : List Nat} {ol rest : List Oper}
variable {d : Nat} {ty : TypeId} {p : String} {af : Array Edge} {g : Option (Nat × Bool)}
theorem TyE.raw {α : Type} {E : ER α} {P : Program} {t e : TypeId} {bytes : Nat} (h : TyE P t e E bytes) : TyE P t e (rawE E.size) bytes := by
  obtain ⟨h1, h2, h3⟩ := h; exact ⟨h1, h2, h3⟩
theorem R.appD {α : Type} {E : ER α} {D : ED E} {t e : TypeId} {bytes : Nat} {S X : Operand} {v : Value} {xs : List α} {y : α} {C c : Chunk} {bl : Nat} {cells : List Value} {L1 L2 L3 : Own} (hty : TyE fr.P t e E bytes) (hw : wan fr.N ol σ d g = true)
    (hs : ev σ S = v) (hx : ev σ X = .slice (some ⟨bl, 0, none⟩) 1 1) (ho : OwnD D e H v xs C) (dC : Del L C L1) (dl : Del L1 [(bl, .cells cells.toArray e)] L2) (dc : Del L2 c L3) (hr : D.R H cells y c)
    (h63 : xs.length + 1 ≤ 4611686018427387904) (hby : (xs.length + 1) * bytes ≤ 140737488355328)
    (h : ∀ v' C', OwnD D e H v' (xs ++ [y]) C' → TL fr x ol rest Q (upd σ d v') H (C' :: L3) ds) :
    TL fr x ol (⟨some d, .call { callee := .builtin .append, args := #[S, X], argTypes := #[t, t] }, ty, p, af, g⟩ :: rest) Q σ H L ds := by
  obtain ⟨raws, c0, cd, rfl, hO, hD⟩ := ho
  have hlen := hD.len
  obtain ⟨r1, r2⟩ := D.raw hr
  have hcs : CellsOf (rawE E.size) H (cells ++ []) [cells] := k_5 ⟨rfl, r1, r2⟩ k_7
  rw [List.append_nil] at hcs
  have hlit : OwnS (rawE E.size) e H (.slice (some ⟨bl, 0, none⟩) 1 1) [cells] [(bl, .cells cells.toArray e)] := OwnS.lit (xs := [cells]) hcs (by show 1 ≤ maxLen; decide)
  obtain ⟨k, hk1, hk2⟩ := Src.ownA hlit
  refine TL.permL (L' := c0 :: [(bl, .cells cells.toArray e)] :: (cd ++ c) :: L3) ?_ (R.app (E := rawE E.size) (xs := raws) (ys := [cells]) hty.raw hw hs hx hO .hd (hk2 _ (.tl .hd)) hk1 (by rw [hlen]; exact h63) (by rw [hlen]; exact hby) (fun v' c' hO' => ?_))
  · refine dC.perm.trans ?_
    have e1 := dl.perm.trans (dc.perm.append_left _)
    refine (e1.append_left _).trans ?_
    rw [List.flatten_cons, List.flatten_cons, List.flatten_cons, List.append_assoc, List.append_assoc]
    refine List.Perm.append_left c0 ?_
    have e2 : (cd ++ ([(bl, Obj.cells cells.toArray e)] ++ (c ++ L3.flatten))).Perm ([(bl, Obj.cells cells.toArray e)] ++ (cd ++ (c ++ L3.flatten))) := by
      exact List.perm_append_comm_assoc _ _ _
    exact e2
  · refine TL.del (.tl .hd) (TL.permL (L' := (c' ++ (cd ++ c)) :: L3) ?_ (h v' _ ⟨raws ++ [cells], c', cd ++ c, rfl, hO', hD.snoc hr⟩))
    simp
theorem TL.focus {C c0 cd c rst : Chunk} {R : Own} {l : List Oper} (dC : Del L C R) (hC : C = c0 ++ cd) (hp : cd.Perm (c ++ rst)) (h : TL fr x ol l Q σ H (c0 :: c :: rst :: R) ds) : TL fr x ol l Q σ H L ds := by
  refine TL.permL (L' := c0 :: c :: rst :: R) ?_ h
  refine dC.perm.trans ?_
  rw [hC]
  simp only [List.flatten_cons, List.append_assoc]
  refine List.Perm.append_left c0 ?_
  rw [← List.append_assoc c]
  exact hp.append_right _
theorem set_self {α : Type} {l : List α} {i : Nat} {x : α} (h : l[i]? = some x) : l.set i x = l := by
  apply List.ext_getElem?; intro j
  by_cases e : i = j
  · subst e
    rw [List.getElem?_set_self (List.getElem?_eq_some_iff.1 h).1, h]
  · rw [List.getElem?_set_ne e]
end
end Go.SX
namespace Go.SX
open Go
attribute [local semireducible] T TL
section
variable {fr : Fr} {x : Cx} {Q : Post} {σ : Env} {H : Heap} {L : Own} {ds : List Nat} {ol rest : List Oper}
theorem TL.focus2 {C c0 cd a b rst : Chunk} {R : Own} {l : List Oper} (dC : Del L C R) (hC : C = c0 ++ cd) (hp : cd.Perm ((a ++ b) ++ rst)) (h : TL fr x ol l Q σ H (c0 :: a :: b :: rst :: R) ds) : TL fr x ol l Q σ H L ds :=
  TL.focus dC hC hp (TL.permL (by simp) h)
theorem unf2 {c0 a b rst : Chunk} {L1 L2 L3 L4 : Own} (d0 : Del L c0 L1) (d1 : Del L1 a L2) (d2 : Del L2 b L3) (d3 : Del L3 rst L4) : L.flatten.Perm (List.flatten ((c0 ++ ((a ++ b) ++ rst)) :: L4)) := by
  have e2 := d2.perm.trans (d3.perm.append_left b)
  have e1 := d1.perm.trans (e2.append_left a)
  have e0 := d0.perm.trans (e1.append_left c0)
  simpa using e0
theorem TL.unfocus2 {c0 a b rst : Chunk} {L1 L2 L3 L4 : Own} {l : List Oper} (d0 : Del L c0 L1) (d1 : Del L1 a L2) (d2 : Del L2 b L3) (d3 : Del L3 rst L4) (h : TL fr x ol l Q σ H ((c0 ++ ((a ++ b) ++ rst)) :: L4) ds) : TL fr x ol l Q σ H L ds :=
  TL.permL (unf2 d0 d1 d2 d3) h
theorem in4p {C c0 cd a b r : Chunk} (hC : C = c0 ++ cd) (hp : cd.Perm ((a ++ b) ++ r)) (h0 : In L c0) (h1 : In L a) (h2 : In L b) (h3 : In L r) {H' : Heap} (hq : ∀ q ∈ L.flatten, H' q.1 = some q.2) : ∀ q ∈ C, H' q.1 = some q.2 := by
  intro q hm
  subst hC
  rcases List.mem_append.1 hm with h | h
  · exact hq q (h0.mem h)
  · rcases List.mem_append.1 (hp.mem_iff.1 h) with h | h
    · rcases List.mem_append.1 h with h | h
      · exact hq q (h1.mem h)
      · exact hq q (h2.mem h)
    · exact hq q (h3.mem h)
end
end Go.SX
namespace Go.SX
open Go
def setl : Array Value → Nat → List Value → Array Value
  | cs, _, [] => cs
  | cs, o, v :: r => setl (cs.setIfInBounds o v) (o + 1) r
theorem k_95 : ∀ (vs : List Value) (o : Nat) (cs : Array Value), (setl cs o vs).size = cs.size
  | [], _, _ => rfl
  | v :: r, o, cs => by rw [setl, k_95 r, Array.size_setIfInBounds]
theorem k_b8 : ∀ (vs : List Value) (o : Nat) (cs : Array Value) (k : Nat), (k < o ∨ o + vs.length ≤ k) → (setl cs o vs)[k]? = cs[k]?
  | [], _, _, _, _ => rfl
  | v :: r, o, cs, k, h => by
    rw [List.length_cons] at h
    rw [setl, k_b8 r (o + 1) _ k (by omega), Array.getElem?_setIfInBounds_ne (by omega)]
theorem setl_in : ∀ (vs : List Value) (o : Nat) (cs : Array Value) (j : Nat), o + j < cs.size → j < vs.length → (setl cs o vs)[o + j]? = vs[j]?
  | [], _, _, _, _, h => by simp at h
  | v :: r, o, cs, 0, h, _ => by
    rw [setl, k_b8 r (o + 1) _ (o + 0) (by omega)]
    simp only [Nat.add_zero] at h ⊢
    rw [Array.getElem?_setIfInBounds_self_of_lt h]; rfl
  | v :: r, o, cs, j + 1, h, h2 => by
    have := setl_in r (o + 1) (cs.setIfInBounds o v) j (by rw [Array.size_setIfInBounds]; omega) (by simpa using h2)
    rw [setl, show o + (j + 1) = o + 1 + j by omega, this]; rfl
theorem heap_setCell {w : World} {b : Nat} {e : TypeId} {cs : Array Value} {z : Nat × Nat} (h : w.heap[b]? = some (.cells cs e z)) (o : Nat) (v : Value) : (w.setCell ⟨b, o, none⟩ v).heap[b]? = some (.cells (cs.setIfInBounds o v) e z) := by
  simp [World.setCell, Array.getElem?_modify, h]
theorem heap_setCells {b : Nat} {e : TypeId} {z : Nat × Nat} : ∀ (vs : List Value) (o : Nat) {w : World} {cs : Array Value}, w.heap[b]? = some (.cells cs e z) → (w.setCells b o vs).heap[b]? = some (.cells (setl cs o vs) e z)
  | [], _, _, _, h => h
  | v :: r, o, w, cs, h => by
    rw [World.setCells, setl]; exact heap_setCells r (o + 1) (heap_setCell h o v)
theorem setCells_same (b : Nat) : ∀ (vs : List Value) (o : Nat) (w : World), (w.setCells b o vs).os = w.os ∧ (w.setCells b o vs).tape = w.tape ∧ (w.setCells b o vs).output = w.output ∧ (w.setCells b o vs).heap.size = w.heap.size ∧ (∀ c, c ≠ b → (w.setCells b o vs).heap[c]? = w.heap[c]?) ∧ w.drawn ≤ (w.setCells b o vs).drawn
  | [], _, _ => ⟨rfl, rfl, rfl, rfl, fun _ _ => rfl, Nat.le_refl _⟩
  | v :: r, o, w => by
    obtain ⟨h1, h2, h3, h4, h5, h6⟩ := setCells_same b r (o + 1) (w.setCell ⟨b, o, none⟩ v)
    refine ⟨h1, h2, h3, by rw [World.setCells, h4]; simp [World.setCell], fun c hc => ?_, h6⟩
    rw [World.setCells, h5 c hc]
    simp only [World.setCell, Array.getElem?_modify]
    rw [if_neg (fun e => hc e.symm)]
theorem St.setCells {x : Cx} {H : Heap} {L : Chunk} {w : World} {b : Nat} {e : TypeId} {cs : Array Value} (h : St x H ((b, .cells cs e) :: L) w) (o : Nat) (vs : List Value) : St x H ((b, .cells (setl cs o vs) e) :: L) (w.setCells b o vs) := by
  have hb := h.sat.l _ (List.mem_cons_self ..)
  simp only at hb
  obtain ⟨h1, h2, h3, h4, h5, h6⟩ := setCells_same b vs o w
  exact h.turn h1 h2 h3 h4 (heap_setCells vs o hb) h5 h6
end Go.SX
namespace Go.SX
open Go
attribute [local semireducible] T TL
theorem run_copy_k {P : Program} (w : World) (dT sT ty elem : TypeId) (i : TypeInfo) (b o dLen dCap : Nat) (a : Addr) (sLen sCap : Nat) (cs : List Value)
    (hu : P.underlying dT = some (.slice elem)) (hi : P.info? elem = some i) (hn : cs.length = Nat.min sLen dLen * i.size)
    (hsrc : ∀ j v, cs[j]? = some v → w.cell? (a.add j) = some v) (hc : ∀ j, j < cs.length → (w.cell? ⟨b, o + j, none⟩).isSome = true) (hf : ∀ j, j < cs.length → w.frozen? ⟨b, o + j, none⟩ = false) (h1 : ∀ v ∈ cs, v.oneCell' = true) :
    (Builtin.copy_ #[dT, sT] ty #[.slice (some ⟨b, o, none⟩) dLen dCap, .slice (some a) sLen sCap]).run P w = .ok (goInt (Nat.min sLen dLen)) (w.setCells b o cs) := by
  have hl := run_loadCells_list (P := P) w a cs hsrc
  have hst := run_storeCells_cells (P := P) b o cs 0 w (by simpa using hc) (by simpa using hf) h1
  simp [Builtin.copy_, run_underlying hu, Builtin.lenOf, Builtin.firstCells, sizeOf, typeInfo, hi, ← hn, hl, hst]
theorem run_append_zeros_grow {P : Program} (w : World) (t tn ty e : TypeId) (i : TypeInfo) (z : Value) (k kn : IntKind) (ht : P.underlying t = some (.slice e)) (htn : P.underlying tn = some (.int kn)) (hi : P.info? e = some i) (hz : i.zero = some z)
    (b : Addr) (sLen sCap : Nat) (olds : List Value) (hlo : olds.length = sLen * i.size) (holds : ∀ j v, olds[j]? = some v → w.cell? (b.add j) = some v)
    (n : Nat) (h0 : 0 < n) (hs : 0 < i.size) (hg : sCap < sLen + n) (h63 : ((sLen + n : Nat) : Int) ≤ 9223372036854775807) (h48 : n * i.bytes ≤ 281474976710656) (hfit : Builtin.nextslicecap (sLen + n) sCap * i.bytes ≤ 281474976710656) :
    (Builtin.append_ #[t, tn] ty #[.slice (some b) sLen sCap, .int k n]).run P w =
      .ok (.slice (some ⟨w.heap.size, 0, none⟩) (sLen + n) (grownCap w (sLen + n) sCap e)) (w.drew.alloc (.cells (olds.toArray ++ Builtin.zeroCells z.cells n ++ Builtin.zeroCells z.cells (grownCap w (sLen + n) sCap e - (sLen + n))) e)) := by
  have hn : ¬ (sLen + n ≤ sCap) := by omega
  have hw : IntKind.i64.wrap (n : Int) = n := by rw [IntKind.wrap_i64]; omega
  have h63' : ¬ (9223372036854775807 < ((sLen : Int) + (n : Int))) := by omega
  have h48' : ¬ (281474976710656 < Builtin.nextslicecap (sLen + n) sCap * i.bytes) := by omega
  have h48i : ¬ (281474976710656 < (n : Int) * (i.bytes : Int)) := by
    rw [← Int.natCast_mul]
    omega
  have hneg : ¬ ((n : Int) < 0) := by omega
  have hns : ¬ (n * i.size = 0) := Nat.mul_ne_zero (by omega) (by omega)
  have hold := run_firstCells_some (P := P) w.drew i.size sLen b sLen sCap olds hlo (by simpa using holds)
  simp [Builtin.append_, run_underlying ht, run_underlying htn, sizeOf, typeInfo, zeroValue, hi, hz, asInt, asIntOf, hw, hn, hneg, hns, h63', h48', h48i, Question.forced, hold, newRow, grownCap]
end Go.SX
namespace Go.SX
open Go
attribute [local semireducible] T TL
section
variable {fr : Fr} {x : Cx} {Q : Post} {σ : Env} {H : Heap} {L : Own} {ds : List Nat} {ol rest : List Oper}
variable {d : Nat} {ty : TypeId} {p : String} {af : Array Edge} {g : Option (Nat × Bool)}
theorem src_own {b o : Nat} {cs : Array Value} {e : TypeId} {vs : List Value} (hin : In L [(b, .cells cs e)]) (hc : ∀ j v, vs[j]? = some v → cs[o + j]? = some v) :
    ∀ w, St x H (L.flatten ++ hid fr.rd ds) w → ∀ j v, vs[j]? = some v → w.cell? ((⟨b, o, none⟩ : Addr).add j) = some v := by
  intro w hst j v hj
  have hb := hst.sat.l (b, .cells cs e) (List.mem_append_left _ (hin.mem (List.mem_singleton.2 rfl)))
  rw [Addr.add_lit]
  exact k_5a hb (hc j v hj)
theorem R.cpyB {α : Type} {E : ER α} {bytes : Nat} {D S : Operand} {tD tS e : TypeId} {b o dL dC sL sC : Nat} {a : Addr} {cs : Array Value} {vs : List Value} {L' : Own} (hty : TyE fr.P tD e E bytes)
    (hw : wan fr.N ol σ d g = true) (hD : ev σ D = .slice (some ⟨b, o, none⟩) dL dC) (hS : ev σ S = .slice (some a) sL sC)
    (hrep : Rep L [(b, .cells cs e)] [(b, .cells (setl cs o vs) e)] L') (hlen : vs.length = Nat.min sL dL * E.size) (hroom : o + vs.length ≤ cs.size) (h1 : ∀ v ∈ vs, v.oneCell' = true)
    (hsrc : ∀ w, St x H (L.flatten ++ hid fr.rd ds) w → ∀ j v, vs[j]? = some v → w.cell? (a.add j) = some v)
    (h : TL fr x ol rest Q (upd σ d (goInt (Nat.min sL dL))) H L' ds) :
    TL fr x ol (⟨some d, .call { callee := .builtin .copy, args := #[D, S], argTypes := #[tD, tS] }, ty, p, af, g⟩ :: rest) Q σ H L ds := by
  obtain ⟨ht, ⟨i, z, hi, hz, hsize, hbytes, hzs⟩, hpos⟩ := hty
  refine TL.value hw rfl (fun w hst => ?_)
  obtain ⟨R, hp1, hp2⟩ := hrep.perm
  have hst1 : St x H ((b, .cells cs e) :: (R ++ hid fr.rd ds)) w := hst.perm (by
    have := hp1.append_right (hid fr.rd ds)
    simpa using this)
  have hb := hst1.sat.l _ (List.mem_cons_self ..)
  simp only at hb
  have hrun := run_copy_k (P := fr.P) w tD tS ty e i b o dL dC a sL sC vs ht hi (by rw [hsize]; exact hlen) (hsrc w hst)
    (fun j hj => by
      have : w.cell? ⟨b, o + j, none⟩ = some cs[o + j] := k_5a hb (Array.getElem?_eq_getElem (by omega))
      rw [this]; rfl)
    (fun j hj => by simp [World.frozen?, hb]) h1
  refine ⟨goInt (Nat.min sL dL), w.setCells b o vs, H, L', ?_, ?_, h⟩
  · have hex : (execOp (ev σ) ⟨some d, .call { callee := .builtin .copy, args := #[D, S], argTypes := #[tD, tS] }, ty, p, af, g⟩) = (do pure (Next.value (← Builtin.copy_ #[tD, tS] ty #[.slice (some ⟨b, o, none⟩) dL dC, .slice (some a) sL sC]))) := by
      simp [execOp, resolve, invoke, builtin, hD, hS]
    rw [hex, k_af hrun]
  · refine (hst1.setCells o vs).perm ?_
    have := (hp2.append_right (hid fr.rd ds)).symm
    simpa using this
theorem R.appZG {α : Type} {E : ER α} {bytes : Nat} {S N : Operand} {t tn e : TypeId} {b n cap m : Nat} {k kn : IntKind} {cs : Array Value} (hty : TyE fr.P t e E bytes) (htn : fr.P.underlying tn = some (.int kn))
    (hw : wan fr.N ol σ d g = true) (hS : ev σ S = .slice (some ⟨b, 0, none⟩) n cap) (hN : ev σ N = .int k (m : Nat)) (hin : In L [(b, .cells cs e)]) (hm : 0 < m) (hg : cap < n + m) (hfit : n * E.size ≤ cs.size)
    (hmax : n + m ≤ 1000000) (hby : bytes ≤ 1000)
    (hk : ∀ b' cap' cs', n + m ≤ cap' → cap' ≤ maxLen → cap' * E.size ≤ cs'.size → (∀ j, j < n * E.size → cs'[j]? = cs[j]?) → TL fr x ol rest Q (upd σ d (.slice (some ⟨b', 0, none⟩) (n + m) cap')) H ([(b', .cells cs' e)] :: L) ds) :
    TL fr x ol (⟨some d, .call { callee := .builtin .append, args := #[S, N], argTypes := #[t, tn] }, ty, p, af, g⟩ :: rest) Q σ H L ds := by
  obtain ⟨ht, ⟨i, z, hi, hz, hsize, hbytes, hzs⟩, hpos⟩ := hty
  refine TL.value hw rfl (fun w hst => ?_)
  have hb := hst.sat.l (b, .cells cs e) (List.mem_append_left _ (hin.mem (List.mem_singleton.2 rfl)))
  simp only at hb
  have hol : (cs.toList.take (n * E.size)).length = n * i.size := by
    rw [List.length_take, hsize, Array.length_toList]; omega
  have hget : ∀ j, j < n * E.size → (cs.toList.take (n * E.size))[j]? = cs[j]? := fun j hj => by
    rw [List.getElem?_take_of_lt hj, Array.getElem?_toList]
  have hmx : n + m ≤ maxLen := by unfold maxLen; omega
  have hnsl : Builtin.nextslicecap (n + m) cap ≤ 2 * (n + m) := nextslicecap_le (by omega)
  have hrun := run_append_zeros_grow (P := fr.P) w t tn ty e i z k kn ht htn hi hz ⟨b, 0, none⟩ n cap (cs.toList.take (n * E.size)) hol
    (fun j v hj => by
      have hlt : j < n * E.size := by have := (List.getElem?_eq_some_iff.1 hj).1; rw [hol, hsize] at this; exact this
      rw [Addr.add_lit, Nat.zero_add]
      rw [hget j hlt] at hj
      exact k_5a hb hj)
    m hm (by rw [hsize]; exact hpos) hg (by omega)
    (by rw [hbytes]; calc m * bytes ≤ 1000000 * 1000 := Nat.mul_le_mul (by omega) hby
          _ ≤ _ := by omega)
    (by rw [hbytes]; calc Builtin.nextslicecap (n + m) cap * bytes ≤ (2 * 1000000) * 1000 := Nat.mul_le_mul (by omega) hby
          _ ≤ _ := by omega)
  have hge := grownCap_ge w (n + m) cap e
  have hcm := grownCap_le_maxLen w (n + m) cap e hmx
  refine ⟨_, w.drew.alloc (.cells ((cs.toList.take (n * E.size)).toArray ++ Builtin.zeroCells z.cells m ++ Builtin.zeroCells z.cells (grownCap w (n + m) cap e - (n + m))) e), H, [(w.heap.size, .cells ((cs.toList.take (n * E.size)).toArray ++ Builtin.zeroCells z.cells m ++ Builtin.zeroCells z.cells (grownCap w (n + m) cap e - (n + m))) e)] :: L, ?_, ?_, hk w.heap.size (grownCap w (n + m) cap e) _ hge hcm ?_ ?_⟩
  · have hex : (execOp (ev σ) ⟨some d, .call { callee := .builtin .append, args := #[S, N], argTypes := #[t, tn] }, ty, p, af, g⟩) = (do pure (Next.value (← Builtin.append_ #[t, tn] ty #[.slice (some ⟨b, 0, none⟩) n cap, .int k m]))) := by
      simp [execOp, resolve, invoke, builtin, hS, hN]
    rw [hex, k_af hrun]
  · have h1 := hst.drew.alloc (.cells ((cs.toList.take (n * E.size)).toArray ++ Builtin.zeroCells z.cells m ++ Builtin.zeroCells z.cells (grownCap w (n + m) cap e - (n + m))) e)
    simpa using h1
  · simp only [Array.size_append, List.size_toArray, k_b7, hzs, hol, hsize, ← Nat.add_mul]
    refine Nat.mul_le_mul_right _ ?_
    omega
  · intro j hj
    rw [Array.getElem?_append_left (by
      simp only [Array.size_append, List.size_toArray, hol, hsize]; omega), Array.getElem?_append_left (by simp only [List.size_toArray, hol, hsize]; omega)]
    rw [List.getElem?_toArray]
    exact hget j hj
theorem R.callX {F : Operand} {ag : List Operand} {ats : Array TypeId} {fv v : Value} {vs : List Value} (hw : wan fr.N ol σ d g = true) (hf : ev σ F = fv) (ha : ag.map (ev σ) = vs)
    (hrun : ∀ w, St x H (L.flatten ++ hid fr.rd ds) w → (do let d ← Deferred.ofValue fv vs.toArray; invoke d.target d.args : Sem Next).run fr.P w = .ok (.value v) w)
    (h : TL fr x ol rest Q (upd σ d v) H L ds) : TL fr x ol (⟨some d, .call { callee := .value F, args := ag.toArray, argTypes := ats }, ty, p, af, g⟩ :: rest) Q σ H L ds := by
  refine TL.value hw rfl (fun w hst => ⟨v, w, H, L, ?_, hst, h⟩)
  simp only [execOp]
  rw [resolve_value, hf, ha, hrun w hst]
theorem ovl_run {P : Program} {f : FuncId} {fn : Func} {tS tR e : TypeId} {sz : Nat} (hf : P.funcs[f]? = some fn) (hname : (fn.name == "runtime.NumGoroutine") = false) (hb : fn.body.isNone = true) (hn : Extern.findNext fn = none)
    (he : Extern.find fn = some (Extern.SlicesOverlaps.overlaps #[tS, tS] #[tR])) (ht : P.underlying tS = some (.slice e)) (hz : ∀ w, (sizeOf e).run P w = .ok sz w)
    {w : World} {a b oa ob la ca lb cb : Nat} {csa csb : Array Value} {ea eb : TypeId} (ha : w.heap[a]? = some (.cells csa ea)) (hbb : w.heap[b]? = some (.cells csb eb)) (hne : a ≠ b) (hpos : csb.size ≠ 0) :
    (do let d ← Deferred.ofValue (.func (.func f) #[] #[]) ([.slice (some ⟨a, oa, none⟩) la ca, .slice (some ⟨b, ob, none⟩) lb cb] : List Value).toArray; invoke d.target d.args : Sem Next).run P w = .ok (.value (.bool false)) w := by
  have h1 := run_callFunc_extern hf hname hb hn he #[.slice (some ⟨a, oa, none⟩) la ca, .slice (some ⟨b, ob, none⟩) lb cb] w
  rw [Lib.run_overlaps_apart w tS tR e ht sz hz ⟨a, oa, none⟩ ⟨b, ob, none⟩ la ca lb cb hne ea eb csa.size csb.size (by simp [World.shape?, ha]) (by simp [World.shape?, hbb]) hpos (by simp [World.frozen?, ha]) (by simp [World.frozen?, ha])] at h1
  simp only [Deferred.ofValue, Sem.run_bind, Sem.run_pure, Result.andThen_ok, invoke]
  simpa using h1
end
end Go.SX
namespace Go.SX
open Go
theorem slc_lit {b n c l h m sz : Nat} (hml : l < m) : slcV (.slice (some ⟨b, 0, none⟩) n c) l h m sz = .slice (some ⟨b, l * sz, none⟩) (h - l) (m - l) := by
  have : ¬ (m = l) := by omega
  simp [slcV, this, Addr.add_lit]
theorem natMinL {a b : Nat} (h : a ≤ b) : Nat.min a b = a := Nat.min_eq_left h
theorem natMinR {a b : Nat} (h : b ≤ a) : Nat.min a b = b := Nat.min_eq_right h
def tlC (cs : Array Value) (i n sz : Nat) : List Value := (cs.toList.drop (i * sz)).take ((n - i) * sz)
theorem tlC_len {cs : Array Value} {i n sz : Nat} (hi : i ≤ n) (hn : n * sz ≤ cs.size) : (tlC cs i n sz).length = (n - i) * sz := by
  unfold tlC
  rw [List.length_take, List.length_drop, Array.length_toList, Nat.sub_mul]
  have : i * sz ≤ n * sz := Nat.mul_le_mul_right _ hi
  omega
theorem tlC_get {cs : Array Value} {i n sz j : Nat} (hj : j < (n - i) * sz) : (tlC cs i n sz)[j]? = cs[i * sz + j]? := by
  unfold tlC
  rw [List.getElem?_take_of_lt hj, List.getElem?_drop, Array.getElem?_toList]
theorem raw_one {H : Heap} {raws : List (List Value)} {cs : Array Value} {sz : Nat} (hp : 0 < sz) (h6 : ∀ i x, raws[i]? = some x → ∃ l, (rawE sz).R H l x ∧ ∀ j u, l[j]? = some u → cs[i * sz + j]? = some u) :
    ∀ k v, k < raws.length * sz → cs[k]? = some v → v.oneCell' = true := by
  intro k v hk hv
  have h1 : k / sz < raws.length := (Nat.div_lt_iff_lt_mul hp).2 hk
  obtain ⟨l, ⟨rfl, hl, ho⟩, hc⟩ := h6 (k / sz) raws[k / sz] (List.getElem?_eq_getElem h1)
  have h2 : k % sz < (raws[k / sz]).length := by rw [hl]; exact Nat.mod_lt _ hp
  have h3 := hc (k % sz) _ (List.getElem?_eq_getElem h2)
  rw [Nat.mul_comm, Nat.div_add_mod, hv] at h3
  injection h3 with h3
  exact ho v (h3 ▸ List.getElem_mem h2)
theorem tlC_one {H : Heap} {raws : List (List Value)} {cs : Array Value} {sz i : Nat} (hp : 0 < sz) (hi : i ≤ raws.length) (h6 : ∀ i x, raws[i]? = some x → ∃ l, (rawE sz).R H l x ∧ ∀ j u, l[j]? = some u → cs[i * sz + j]? = some u) (hn : raws.length * sz ≤ cs.size) :
    ∀ v ∈ tlC cs i raws.length sz, v.oneCell' = true := by
  intro v hv
  obtain ⟨j, hj⟩ := List.mem_iff_getElem?.1 hv
  have hlt := (List.getElem?_eq_some_iff.1 hj).1
  rw [tlC_len hi hn] at hlt
  rw [tlC_get hlt] at hj
  refine raw_one hp h6 (i * sz + j) v ?_ hj
  have : (raws.length - i) * sz = raws.length * sz - i * sz := Nat.sub_mul ..
  have : i * sz ≤ raws.length * sz := Nat.mul_le_mul_right _ hi
  omega
theorem own_ins {H : Heap} {e : TypeId} {raws : List (List Value)} {cs cs' : Array Value} {sz i b' cap' : Nat} {vc : List Value} (hi : i ≤ raws.length) (hp : 0 < sz)
    (h6 : ∀ i x, raws[i]? = some x → ∃ l, (rawE sz).R H l x ∧ ∀ j u, l[j]? = some u → cs[i * sz + j]? = some u) (hvc : vc.length = sz) (h1 : ∀ u ∈ vc, u.oneCell' = true)
    (hc : raws.length + 1 ≤ cap') (hm : cap' ≤ maxLen) (hz : cap' * sz ≤ cs'.size)
    (f0 : ∀ k, k < i * sz → cs'[k]? = cs[k]?) (f1 : ∀ j, j < sz → cs'[i * sz + j]? = vc[j]?) (f2 : ∀ k, i * sz ≤ k → k < raws.length * sz → cs'[k + sz]? = cs[k]?) :
    OwnS (rawE sz) e H (.slice (some ⟨b', 0, none⟩) (raws.length + 1) cap') (raws.take i ++ vc :: raws.drop i) [(b', .cells cs' e)] := by
  have hlen : (raws.take i ++ vc :: raws.drop i).length = raws.length + 1 := by
    rw [List.length_append, List.length_take, List.length_cons, List.length_drop]; omega
  refine .inr ⟨b', cap', cs', by rw [hlen], rfl, by rw [hlen]; exact hc, hm, hz, fun k l hk => ?_⟩
  show ∃ l', (rawE sz).R H l' l ∧ ∀ j u, l'[j]? = some u → cs'[k * sz + j]? = some u
  by_cases h1k : k < i
  · rw [List.getElem?_append_left (by rw [List.length_take]; omega), List.getElem?_take_of_lt h1k] at hk
    obtain ⟨l', hR, hcell⟩ := h6 k l hk
    refine ⟨l', hR, fun j u hj => ?_⟩
    have hjl : j < sz := by rw [← hR.2.1]; exact (List.getElem?_eq_some_iff.1 hj).1
    rw [f0 _ (by calc k * sz + j < k * sz + sz := by omega
          _ = (k + 1) * sz := by rw [Nat.add_mul, Nat.one_mul]
          _ ≤ i * sz := Nat.mul_le_mul_right _ h1k)]
    exact hcell j u hj
  · rw [List.getElem?_append_right (by rw [List.length_take]; omega), List.length_take, Nat.min_eq_left hi] at hk
    by_cases h2k : k = i
    · subst h2k
      rw [Nat.sub_self, List.getElem?_cons_zero] at hk
      injection hk with hk
      subst hk
      exact ⟨vc, ⟨rfl, hvc, h1⟩, fun j u hj => by rw [f1 j (by rw [← hvc]; exact (List.getElem?_eq_some_iff.1 hj).1)]; exact hj⟩
    · rw [show k - i = (k - i - 1) + 1 by omega, List.getElem?_cons_succ, List.getElem?_drop, show i + (k - i - 1) = k - 1 by omega] at hk
      obtain ⟨l', hR, hcell⟩ := h6 (k - 1) l hk
      have hkl := (List.getElem?_eq_some_iff.1 hk).1
      refine ⟨l', hR, fun j u hj => ?_⟩
      have hjl : j < sz := by rw [← hR.2.1]; exact (List.getElem?_eq_some_iff.1 hj).1
      have e1 : k * sz + j = (k - 1) * sz + j + sz := by
        have : k * sz = (k - 1) * sz + sz := by
          rw [show k = (k - 1) + 1 by omega, Nat.add_mul, Nat.one_mul]; rfl
        omega
      rw [e1, f2 _ (by
        have := Nat.mul_le_mul_right sz (show i ≤ k - 1 by omega); omega) (by
        calc (k - 1) * sz + j < (k - 1) * sz + sz := by omega
          _ = (k - 1 + 1) * sz := by rw [Nat.add_mul, Nat.one_mul]
          _ ≤ raws.length * sz := Nat.mul_le_mul_right _ (by omega))]
      exact hcell j u hj
theorem ovl_pair {fr : Fr} {x : Cx} {H : Heap} {ds : List Nat} {b bv : Nat} {cs vcs : Array Value} {e e' : TypeId} {L : Own} {w : World} (hst : St x H (List.flatten ([(b, .cells cs e)] :: [(bv, .cells vcs e')] :: L) ++ hid fr.rd ds) w) :
    w.heap[bv]? = some (.cells vcs e') ∧ w.heap[b]? = some (.cells cs e) ∧ bv ≠ b := by
  have h1 := hst.sat.l (bv, .cells vcs e') (by simp)
  have h2 := hst.sat.l (b, .cells cs e) (by simp)
  have hnd := hst.sat.nd
  refine ⟨h1, h2, ?_⟩
  simp [keys] at hnd
  exact fun e => hnd.1.1 e.symm
end Go.SX
namespace Go.SX
open Go
theorem OwnS.toRaw {α : Type} {E : ER α} {e : TypeId} {H : Heap} {v : Value} {xs : List α} {c : Chunk} (h : OwnS E e H v xs c) :
    ∃ raws : List (List Value), OwnS (rawE E.size) e H v raws c ∧ raws.length = xs.length ∧ ∀ (k : Nat) (x : α) (l : List Value), xs[k]? = some x → raws[k]? = some l → E.R H l x := by
  rcases h with ⟨rfl, rfl, rfl⟩ | ⟨b, cap, cs, rfl, rfl, h3, h4, h5, h6⟩
  · exact ⟨[], .inl ⟨rfl, rfl, rfl⟩, rfl, fun k x l hk => by simp at hk⟩
  · have hl : ∀ k : Fin xs.length, ∃ l, E.R H l (xs[k.val]) ∧ ∀ j u, l[j]? = some u → cs[k.val * E.size + j]? = some u := fun k => h6 k.val _ (List.getElem?_eq_getElem k.isLt)
    let f : Fin xs.length → List Value := fun k => Classical.choose (hl k)
    have hf : ∀ k, E.R H (f k) (xs[k.val]) ∧ ∀ j u, (f k)[j]? = some u → cs[k.val * E.size + j]? = some u := fun k => Classical.choose_spec (hl k)
    have hget : ∀ (k : Nat) (hk : k < xs.length), (List.ofFn f)[k]? = some (f ⟨k, hk⟩) := fun k hk => by simp [List.getElem?_ofFn, hk]
    refine ⟨List.ofFn f, .inr ⟨b, cap, cs, by simp, rfl, by simpa using h3, h4, h5, fun k x hk => ?_⟩, by simp, fun k x l hk hl2 => ?_⟩
    · have hlt : k < xs.length := by have := (List.getElem?_eq_some_iff.1 hk).1; simpa using this
      rw [hget k hlt] at hk
      injection hk with hk
      subst hk
      exact ⟨_, ⟨rfl, E.len (hf ⟨k, hlt⟩).1, E.one (hf ⟨k, hlt⟩).1⟩, (hf ⟨k, hlt⟩).2⟩
    · have hlt := (List.getElem?_eq_some_iff.1 hk).1
      rw [hget k hlt] at hl2
      injection hl2 with hl2
      subst hl2
      have := (hf ⟨k, hlt⟩).1
      rw [List.getElem?_eq_getElem hlt] at hk
      injection hk with hk
      rw [← hk]; exact this
theorem OwnS.ofRaw {α : Type} {E : ER α} {e : TypeId} {H : Heap} {v : Value} {xs : List α} {raws : List (List Value)} {c : Chunk} (h : OwnS (rawE E.size) e H v raws c) (hl : raws.length = xs.length) (hR : ∀ (k : Nat) (x : α) (l : List Value), xs[k]? = some x → raws[k]? = some l → E.R H l x) :
    OwnS E e H v xs c := by
  rcases h with ⟨rfl, rfl, rfl⟩ | ⟨b, cap, cs, rfl, rfl, h3, h4, h5, h6⟩
  · have : xs = [] := List.length_eq_zero_iff.1 hl.symm
    exact .inl ⟨rfl, this, rfl⟩
  · refine .inr ⟨b, cap, cs, by rw [hl], rfl, by rw [← hl]; exact h3, h4, h5, fun k x hk => ?_⟩
    have hlt : k < raws.length := by rw [hl]; exact (List.getElem?_eq_some_iff.1 hk).1
    obtain ⟨l, ⟨rfl, _, _⟩, hc⟩ := h6 k raws[k] (List.getElem?_eq_getElem hlt)
    exact ⟨_, hR k x _ hk (List.getElem?_eq_getElem hlt), hc⟩
theorem ins_typed {α : Type} {E : ER α} {P : Program} {fv : Value} {e : TypeId}
    (hraw : ∀ (H : Heap) (v : Value) (raws : List (List Value)) (ch : Chunk) (i : Nat) (vc : List Value) (bv : Nat), OwnS (rawE E.size) e H v raws ch → i ≤ raws.length → raws.length ≤ 400000 → vc.length = E.size → (∀ u ∈ vc, u.oneCell' = true) →
      Fc P fv [v, .int .i64 i, .slice (some ⟨bv, 0, none⟩) 1 1] H [ch, [(bv, .cells vc.toArray e)]] (fun v' H' L' => ∃ c, L' = [c] ∧ OwnS (rawE E.size) e H' v' (raws.take i ++ vc :: raws.drop i) c))
    {H : Heap} {v : Value} {xs : List α} {ch : Chunk} {i : Int} {y : α} {vc : List Value} {bv : Nat} (ho : OwnS E e H v xs ch) (hy : E.R H vc y) (h0 : 0 ≤ i) (hi : i ≤ (xs.length : Int)) (hl : xs.length ≤ 400000) :
    Fc P fv [v, .int .i64 i, .slice (some ⟨bv, 0, none⟩) 1 1] H [ch, [(bv, .cells vc.toArray e)]] (fun v' H' L' => ∃ c, L' = [c] ∧ OwnS E e H' v' (xs.take i.toNat ++ y :: xs.drop i.toNat) c) := by
  obtain ⟨n, rfl⟩ : ∃ n : Nat, i = n := ⟨i.toNat, by omega⟩
  obtain ⟨raws, h1, h2, h3⟩ := ho.toRaw
  have hn : n ≤ raws.length := by omega
  refine (hraw H v raws ch n vc bv h1 hn (by omega) (E.len hy) (E.one hy)).mono ?_
  rintro v' H' L' hle ⟨c, rfl, hc⟩
  refine ⟨c, rfl, hc.ofRaw (by simp only [List.length_append, List.length_take, List.length_cons, List.length_drop, Int.toNat_natCast]; omega) (fun k x l hk hkl => ?_)⟩
  rw [Int.toNat_natCast] at hk
  by_cases h1k : k < n
  · rw [List.getElem?_append_left (by rw [List.length_take]; omega), List.getElem?_take_of_lt h1k] at hk hkl
    exact E.mono hle (h3 k x l hk hkl)
  · rw [List.getElem?_append_right (by rw [List.length_take]; omega), List.length_take] at hk hkl
    rw [Nat.min_eq_left (by omega)] at hk hkl
    by_cases h2k : k = n
    · subst h2k
      rw [Nat.sub_self, List.getElem?_cons_zero] at hk hkl
      injection hk with hk; injection hkl with hkl
      subst hk; subst hkl
      exact E.mono hle hy
    · rw [show k - n = (k - n - 1) + 1 by omega, List.getElem?_cons_succ, List.getElem?_drop, show n + (k - n - 1) = k - 1 by omega] at hk hkl
      exact E.mono hle (h3 (k - 1) x l hk hkl)
end Go.SX
namespace Go.SX
open Go
theorem Fc.part {P : Program} {fv : Value} {vs : List Value} {H : Heap} {post post' : Value → Heap → Own → Prop} (h : Fc P fv vs H [] post)
    (hp : ∀ v H' L', post v H' L' → ∃ (c : Chunk) (L2 : Own), L'.flatten.Perm (c ++ L2.flatten) ∧ ∀ H2, HLe H' H2 → (∀ q ∈ c, H2 q.1 = some q.2) → post' v H2 L2) : Fc P fv vs H [] post' := by
  intro w hsat
  refine (h w hsat).mono ?_
  rintro e w' ⟨v, H', L', rfl, hst, hq⟩
  obtain ⟨c, L2, hperm, hpost⟩ := hp v H' L' hq
  have h0 : St ⟨w, H, List.flatten []⟩ H' (List.flatten (c :: L2) ++ []) w' := by
    rw [List.append_nil, List.flatten_cons]; exact hst.perm hperm
  obtain ⟨H2, h1, h2, h3⟩ := h0.shut .hd
  exact ⟨v, H2, L2, rfl, by simpa using h3, hpost H2 h1 h2⟩
theorem OwnD.part {α : Type} {E : ER α} {D : ED E} {e : TypeId} {H : Heap} {v : Value} {xs : List α} {C : Chunk} (h : OwnD D e H v xs C) : ∃ c0 cd, C = c0 ++ cd ∧ ∀ H2, HLe H H2 → (∀ q ∈ cd, H2 q.1 = some q.2) → OwnS E e H2 v xs c0 := by
  obtain ⟨raws, c0, cd, hC, hO, hD⟩ := h
  refine ⟨c0, cd, hC, fun H2 hl hq => ?_⟩
  obtain ⟨cc, hp, hd⟩ := hD
  exact OwnS.ofRaw (hO.mono hl) hd.len (fun k x l hk hkl => hd.all hl (fun q hm => hq q (hp.mem_iff.2 hm)) k l x hkl hk)
end Go.SX
namespace Go.SX
open Go Go.Proofs Go.Proofs.Tryz
def rowD : ED rowE where
  R := fun H cs x c => ∃ v1 v2 c1 c2, cs = [.int .i64 x.1, v1, v2] ∧ c = c1 ++ (c2) ∧ OwnS (intE .u64) 39 H v1 x.2.1 c1 ∧ OwnS (slE (intE .u64)) 64 H v2 x.2.2 c2
  mono := fun hl h => by obtain ⟨v1, v2, c1, c2, rfl, rfl, h0, h1⟩ := h; exact ⟨_, _, _, _, rfl, rfl, h0.mono hl, h1.mono hl⟩
  read := fun h hl hq => by obtain ⟨v1, v2, c1, c2, rfl, rfl, h0, h1⟩ := h; exact ⟨_, _, rfl, h0.read hl (fun q hm => hq q (List.mem_append_left _ hm)), h1.read hl (fun q hm => hq q (List.mem_append_right _ (hm)))⟩
  raw := fun h => by
    obtain ⟨v1, v2, c1, c2, rfl, rfl, h0, h1⟩ := h
    obtain ⟨_, _, rfl, _, _⟩ := h0.shape
    obtain ⟨_, _, rfl, _, _⟩ := h1.shape
    exact ⟨rfl, k_3 rfl⟩
theorem state_each_Row_v (H : Heap) (va0 : Value) (a0 : List (ZR)) (ha0 : RdS rowE H va0 a0) (c6 : Value) (a1 : (ZR) → ((ZR))) (ha1 : ∀ H', HLe H H' → ∀ (z0 : ZR) (c7 : Value) (hz0_1 : RdS (intE .u64) H' c7 z0.2.1) (c8 : Value) (hz0_2 : RdS (slE (intE .u64)) H' c8 z0.2.2), (z0 ∈ a0) → Fc Tryz.prog c6 [.agg #[.int .i64 z0.1, c7, c8]] H' [] (fun v' H' L' => ∃ d1 d2 d3 d4, v' = .agg #[.int .i64 (a1 z0).1, d1, d2] ∧ L' = [d3, d4] ∧ OwnS (intE .u64) 39 H' d1 (a1 z0).2.1 d3 ∧ OwnS (slE (intE .u64)) 64 H' d2 (a1 z0).2.2 d4)) (na1 : c6.oneCell' = true) (hl : a0.length ≤ 100000) : Fc Tryz.prog (fnv 100) [va0, c6] H [] (fun v' H' L' => ∃ d5 d6, v' = d5 ∧ L' = [d6] ∧ OwnD rowD 47 H' d5 (k_5d a0 a1) d6) := by
 refine Fc.of_body (N := 22) func100 rfl kA rfl rfl ?_
 intro w0
 obtain ⟨Aa0, ca0, rfl, hca0, hda0, ha0⟩ := ha0.shape
 refine sR (aA ?_)
 refine nN (sR (aA ?_))
 refine nN (T.seq (sR (mA ?_)))
 refine R.len underlying29 rfl rfl ?_
 refine mA ?_
 refine nN (T.block (T.loop (ι := Nat × Value × (List (ZR)) × Chunk) (fun ⟨a4, b2, a3, a9⟩ H' L' ds' => a4 ≤ a0.length ∧ Has L' [a9] ∧ OwnD rowD 47 H' b2 a3 a9 ∧ a3.length ≤ a4 ∧ k_38 a1 (a0.drop a4) a3 = k_38 a1 a0 []) (fun ⟨a4, b2, a3, a9⟩ => [(10, .int .i64 (a4 : Int)), (1, c6), (5, b2), (8, .slice Aa0 a0.length ca0), (9, .int .i64 (a0.length : Int))]) (fun ⟨a4, b2, a3, a9⟩ => a0.length - a4) (0, .slice none 0 0, [], []) ?_ ?_ ?_))
 exact ⟨oA, (Has.none Has.nil), OwnD.nil, bA, (by rfl)⟩
 exact ⟨rfl, rfl, rfl, rfl, rfl, trivial⟩
 intro ⟨a4, b2, a3, a9⟩ σ_l1 H_l1 L_l1 ds_l1 c3 c0
 obtain ⟨hkl1, c0⟩ := c0
 obtain ⟨hLl1, c4, hBl1_0, d7⟩ := c0
 obtain ⟨d8, d9, rfl, m5l1, n5l1_⟩ := OwnD.shape c4
 refine T.has hLl1 ?_
 refine sR (R.lss rfl rfl rfl ?_)
 refine nN (T.seq (T.condD rfl (fun c11 => ?_) (fun c11 => ?_)))
 have hltl1 : a4 < a0.length := by omega
 obtain ⟨a2, c5⟩ := getk (xs := a0) (k := a4) oA
 refine T.skip (Post.thnN (T.seq ?_))
 refine T.block (sR ?_)
 obtain ⟨b12, o12, i12, k12⟩ := RdS.elem (ha0.mono c3) c5
 obtain ⟨l12, g12, k12⟩ := k12
 obtain ⟨z12_1, z12_2, rfl, c1, c2⟩ := g12
 obtain ⟨a5, a6, rfl, m12_1, n12_1, c1⟩ := c1.shape
 obtain ⟨a7, a8, rfl, m12_2, n12_2, c2⟩ := c2.shape
 refine R.ixp underlying29 sizeOf47 rfl rfl rfl oA i12 ?_
 refine R.ldK (l := [.int .i64 (a2.1), sl a5 a2.2.1 a6, sl a7 a2.2.2 a8]) isAgg47 sizeOf47 rfl rfl k12 rfl ?_
 refine R.alloc zeroValue47 rfl ?_
 intro b7
 refine stY (l := [.int .i64 (a2.1), sl a5 a2.2.1 a6, sl a7 a2.2.2 a8]) (new := [.int .i64 (a2.1), sl a5 a2.2.1 a6, sl a7 a2.2.2 a8]) .hd sizeOf47 rfl rfl ?_
 refine TL.shut .hd ?_
 intro e1 b0 e2
 have e3 : e1 b7 = some (.cells #[.int .i64 (a2.1), .slice a5 a2.2.1.length a6, .slice a7 a2.2.2.length a8] 47) := shut1 e2
 refine nN (T.region (mA ?_))
 refine mA ?_
 refine R.ldXH (cs := [.int .i64 (a2.1), sl a5 a2.2.1 a6, sl a7 a2.2.2 a8]) (l := [.int .i64 (a2.1), sl a5 a2.2.1 a6, sl a7 a2.2.2 a8]) isAgg47 sizeOf47 rfl rfl e3 rfl rfl ?_
 obtain ⟨b1, e0⟩ : ∃ r, r = (a1 a2) := ⟨_, rfl⟩
 refine TL.call [] rfl rfl rfl (ha1 _ (c3.trans b0) a2 _ (c1.mono b0) _ (c2.mono b0) (by exact List.mem_of_getElem? c5)) ?_
 intro v17 H17 L17 s17 q17
 rw [← e0] at q17
 obtain ⟨e4, e5, c9, d0, rfl, rfl, b3, b4⟩ := q17
 obtain ⟨b5, b6, rfl, e6, e7⟩ := OwnS.shape b3
 obtain ⟨b8, b9, rfl, e8, e9⟩ := OwnS.shape b4
 refine R.bs (e := 47) (cs := [.int .i64 (b1.1), sl b5 b1.2.1 b6, sl b8 b1.2.2 b9]) rfl (fun _ => by kernel_rfl) ?_
 intro b18
 refine TL.mrg (a := c9) (b := d0) (.tl .hd) (.tl .hd) ?_
 refine R.appD (D := rowD) (xs := a3) (y := b1) (cells := [.int .i64 (b1.1), sl b5 b1.2.1 b6, sl b8 b1.2.2 b9]) Tryz_ty29 rfl rfl rfl (OwnD.mono c4 (b0.trans s17)) (.tl (.tl .hd)) (.tl .hd) .hd ⟨_, _, _, _, rfl, rfl, b3, b4⟩ lA lA ?_
 intro v19 c19 w19
 obtain ⟨A19, p19, rfl, m19, n19⟩ := OwnD.shape w19
 refine aA ?_
 refine TL.nil (Post.blkN ?_)
 refine id (Post.thnN (T.region ?_))
 refine R.addI rfl rfl rfl oA ?_
 refine mA ?_
 refine nN ?_
 exact ⟨(a4 + 1, sl A19 (a3 ++ [b1]) p19, (a3 ++ [b1]), c19), (c3.trans (b0.trans s17)), ⟨oA, (Has.cons .hd Has.nil), w19, bA, (by subst e0; rw [← d7, k_8 c5, k_38]; rw [LR.seq_go])⟩, by show a0.length - (a4 + 1) < a0.length - a4; omega, rfl, rfl, rfl, rfl, rfl, trivial⟩
 refine T.exit (Post.thnE (Post.thnE (Post.blkX ?_)))
 have hEl1 : k_38 a1 a0 [] = a3 := (d7.symm.trans (by rw [show a4 = a0.length by omega, List.drop_length, k_38]))
 refine id (Post.thnN (sR ?_))
 refine mA ?_
 refine aA ?_
 refine nN (T.has (Has.cons .hd Has.nil) ?_)
 refine T.ret ?_
 have hM : k_5d a0 a1 = a3 := by rw [k_5d, hEl1, LR.seq_go]
 exact fin1L (v := sl d8 a3 d9) [a9] rfl rfl (List.Sublist.refl _) ⟨sl d8 a3 d9, a9, by first | rw [hM] | rfl, rfl, by rw [hM]; exact c4⟩
theorem state_own_v (H : Heap) (a0 : ZS) (j3 : Value) (d0 : RdS slotE H j3 a0.2.1.2.1) (j4 : Value) (c2 : RdS (intE .i64) H j4 a0.2.1.2.2) (j5 : Value) (c3 : RdS relationE H j5 a0.2.2.1) (j6 : Value) (i9 : RdS rowE H j6 a0.2.2.2) (hS : StS a0) : Fc Tryz.prog (fnv 94) [.agg (c24 a0.1 [.int .i64 a0.2.1.1, j3, j4, j5, j6]).toArray] H [] (fun v' H' L' => ∃ j8 j9 k0 k1 k2 k3, v' = .agg (c24 (k_2d a0).1 [.int .i64 (k_2d a0).2.1.1, j8, j9, k0, k1]).toArray ∧ L' = [k2, k3] ∧ RdS slotE H' j8 (k_2d a0).2.1.2.1 ∧ RdS (intE .i64) H' j9 (k_2d a0).2.1.2.2 ∧ OwnS relationE 55 H' k0 (k_2d a0).2.2.1 k2 ∧ OwnD rowD 47 H' k1 (k_2d a0).2.2.2 k3) := by
 refine Fc.of_body (N := 24) func94 rfl kA rfl rfl ?_
 intro w0
 obtain ⟨Aa0_25, ca0_25, rfl, r0, r1, d0⟩ := d0.shape
 obtain ⟨c4, c5, rfl, r2, r3, c2⟩ := c2.shape
 obtain ⟨a9, b0, rfl, r4, r5, c3⟩ := c3.shape
 obtain ⟨a2, a3, rfl, r6, r7, i9⟩ := i9.shape
 have hs5 := hS.ids
 have hs1 := hS.slots
 have hs2 := hS.free
 have hs3 := hS.rels
 have hs4 := hS.rows
 refine sR (R.box rfl cA ?_)
 intro b1
 refine R.alloc zeroValue31 rfl ?_
 intro b2
 refine nN (T.seq (T.cutK (ι := Value × (List (Int × Bool)) × Value × (List Int) × Value × (List (ZL)) × Chunk) (fun ⟨g7, b9, g8, c0, g9, c1, d9⟩ H' L' ds' => Has L' [[(b2, .cells zSt.toArray 31)], [(b1, .cells (c24 a0.1 [.int .i64 (a0.2.1.1), g7, g8, g9, .slice a2 a0.2.2.2.length a3]).toArray 31)], d9] ∧ RdS slotE H' g7 b9 ∧ RdS (intE .i64) H' g8 c0 ∧ OwnS relationE 55 H' g9 c1 d9 ∧ ((a0.2.1.2.1, a0.2.1.2.2, a0.2.2.1) : (List (Int × Bool)) × (List Int) × (List (ZL))) = (b9, c0, c1)) (fun ⟨g7, b9, g8, c0, g9, c1, d9⟩ => [(1, .pointer (some ⟨b1, 0, none⟩)), (2, .pointer (some ⟨b2, 0, none⟩))]) ?_ ?_))
 refine T.draw k_2f kA ?_
 refine vP 0 [1, 2, 3, 4, 5, 6, 7, 8, 9, 10, 11, 12, 13, 14, 15, 16, 17, 18] rfl underlying31 rfl sizeOf27 ?_
 refine vP 1 [2, 3, 4, 5, 6, 7, 8, 9, 10, 11, 12, 13, 14, 15, 16, 17, 18] rfl underlying27 rfl sizeOf24 ?_
 refine vP 4 [2, 3, 5, 6, 7, 8, 9, 10, 11, 12, 13, 14, 15, 16, 17, 18] rfl underlying31 rfl sizeOf27 ?_
 refine vP 5 [2, 3, 6, 7, 8, 9, 10, 11, 12, 13, 14, 15, 16, 17, 18] rfl underlying27 rfl sizeOf25 ?_
 refine vP 8 [2, 3, 6, 7, 9, 10, 11, 12, 13, 14, 15, 16, 17, 18] rfl underlying31 rfl sizeOf28 ?_
 refine Plan.s3 2 6 9 [3, 6, 7, 9, 10, 11, 12, 13, 14, 15, 16, 17, 18] [2, 3, 7, 9, 10, 11, 12, 13, 14, 15, 16, 17, 18] [2, 3, 6, 7, 10, 11, 12, 13, 14, 15, 16, 17, 18] kA kA kA kA rfl rfl rfl ?_ ?_ ?_
 refine R.ld isAgg24 rfl rfl (.tl .hd) rfl ?_
 refine eA ?_
 refine Plan.s3 3 6 9 [6, 7, 9, 10, 11, 12, 13, 14, 15, 16, 17, 18] [3, 7, 9, 10, 11, 12, 13, 14, 15, 16, 17, 18] [3, 6, 7, 10, 11, 12, 13, 14, 15, 16, 17, 18] kA kA kA kA rfl rfl rfl ?_ ?_ ?_
 refine TL.call [] rfl rfl rfl (k_a8 _ _ a0.2.1.2.1 d0 bA) ?_
 intro v6 H6 L6 s6 q6
 obtain ⟨c6, rfl, w6⟩ := q6
 obtain ⟨x6, e6⟩ : ∃ x, x = a0.2.1.2.1 := ⟨_, rfl⟩
 rw [← e6] at w6
 obtain ⟨A6, p6, rfl, m6, n6⟩ := OwnS.shape w6
 have t6 : x6.length = a0.2.1.2.1.length := by rw [e6]
 refine TL.shut .hd ?_
 intro HF6_1 e0 p3
 have j2 := OwnS.read w6 e0 p3
 refine TL.nil (Plan.e1 ((s6.trans e0)) ?_)
 refine Plan.s2 6 9 [7, 9, 10, 11, 12, 13, 14, 15, 16, 17, 18] [6, 7, 10, 11, 12, 13, 14, 15, 16, 17, 18] kA kA kA rfl rfl ?_ ?_
 refine R.ld isAgg25 rfl rfl (.tl .hd) rfl ?_
 refine eA ?_
 refine Plan.s2 7 9 [9, 10, 11, 12, 13, 14, 15, 16, 17, 18] [7, 10, 11, 12, 13, 14, 15, 16, 17, 18] kA kA kA rfl rfl ?_ ?_
 refine TL.call [] rfl rfl rfl (k_86 _ _ a0.2.1.2.2 (c2.mono (s6.trans e0)) bA) ?_
 intro e3 e4 e5 a5 c7
 obtain ⟨e7, rfl, b3⟩ := c7
 obtain ⟨a1, b4⟩ : ∃ x, x = a0.2.1.2.2 := ⟨_, rfl⟩
 rw [← b4] at b3
 obtain ⟨a6, a7, rfl, e8, e9⟩ := OwnS.shape b3
 have f0 : a1.length = a0.2.1.2.2.length := by rw [b4]
 refine TL.shut .hd ?_
 intro HF10_2 h0 m3
 have m4 := OwnS.read b3 h0 m3
 refine TL.nil (Plan.e1 ((a5.trans h0)) ?_)
 refine Plan.s1 9 [10, 11, 12, 13, 14, 15, 16, 17, 18] kA kA rfl ?_
 refine R.ld isAgg28 rfl rfl (.tl .hd) rfl ?_
 refine eA ?_
 refine vP 11 [10, 12, 13, 14, 15, 16, 17, 18] rfl underlying31 rfl sizeOf27 ?_
 refine vP 12 [10, 13, 14, 15, 16, 17, 18] rfl underlying27 rfl sizeOf24 ?_
 refine Plan.s1 10 [13, 14, 15, 16, 17, 18] kA kA rfl ?_
 refine TL.call [] rfl rfl rfl (k_80 _ _ a0.2.2.1 (c3.mono (s6.trans (e0.trans (a5.trans h0)))) bA) ?_
 intro f1 f2 f3 a8 c8
 obtain ⟨c9, rfl, b5⟩ := c8
 obtain ⟨a4, b6⟩ : ∃ x, x = a0.2.2.1 := ⟨_, rfl⟩
 rw [← b6] at b5
 obtain ⟨b7, b8, rfl, f4, f5⟩ := OwnS.shape b5
 have f6 : a4.length = a0.2.2.1.length := by rw [b6]
 refine TL.nil (Plan.e1 (a8) ?_)
 refine Plan.s1 13 [14, 15, 16, 17, 18] kA kA rfl ?_
 refine stY (l := [sl A6 x6 p6]) (new := (c24 a0.1 [.int .i64 (a0.2.1.1), sl A6 x6 p6, sl c4 a0.2.1.2.2 c5, sl a9 a0.2.2.1 b0, sl a2 a0.2.2.2 a3])) (.tl (.tl .hd)) sizeOf24 rfl (cells1 rfl) ?_
 refine eB ?_
 refine vP 14 [15, 16, 17, 18] rfl underlying31 rfl sizeOf27 ?_
 refine vP 15 [16, 17, 18] rfl underlying27 rfl sizeOf25 ?_
 refine Plan.s1 16 [17, 18] kA kA rfl ?_
 refine stY (l := [sl a6 a1 a7]) (new := (c24 a0.1 [.int .i64 (a0.2.1.1), sl A6 x6 p6, sl a6 a1 a7, sl a9 a0.2.2.1 b0, sl a2 a0.2.2.2 a3])) (.tl (.tl .hd)) sizeOf25 rfl (cells1 rfl) ?_
 refine eB ?_
 refine vP 17 [18] rfl underlying31 rfl sizeOf28 ?_
 refine Plan.s1 18 [] kA kA rfl ?_
 refine stY (l := [sl b7 a4 b8]) (new := (c24 a0.1 [.int .i64 (a0.2.1.1), sl A6 x6 p6, sl a6 a1 a7, sl b7 a4 b8, sl a2 a0.2.2.2 a3])) (.tl (.tl .hd)) sizeOf28 rfl (cells1 rfl) ?_
 refine eB ?_
 refine Plan.done (Post.thnN ?_)
 exact ⟨(sl A6 x6 p6, x6, sl a6 a1 a7, a1, sl b7 a4 b8, a4, c9), (s6.trans (e0.trans (a5.trans (h0.trans a8)))), ⟨(Has.cons (.tl .hd) (Has.cons (.tl .hd) (Has.cons .hd Has.nil))), (j2.mono (a5.trans (h0.trans a8))), (m4.mono a8), b5, (by subst b6; subst b4; subst e6; rfl)⟩, rfl, rfl, trivial⟩
 refine R.ld isAgg28 rfl rfl (.tl .hd) rfl ?_
 refine eA ?_
 refine vP 11 [7, 10, 12, 13, 14, 15, 16, 17, 18] rfl underlying31 rfl sizeOf27 ?_
 refine vP 12 [7, 10, 13, 14, 15, 16, 17, 18] rfl underlying27 rfl sizeOf24 ?_
 refine Plan.s1 7 [10, 13, 14, 15, 16, 17, 18] kA kA rfl ?_
 refine TL.call [] rfl rfl rfl (k_86 _ _ a0.2.1.2.2 (c2.mono (s6.trans e0)) bA) ?_
 intro e3 e4 e5 a5 c7
 obtain ⟨e7, rfl, b3⟩ := c7
 obtain ⟨a1, b4⟩ : ∃ x, x = a0.2.1.2.2 := ⟨_, rfl⟩
 rw [← b4] at b3
 obtain ⟨a6, a7, rfl, e8, e9⟩ := OwnS.shape b3
 have f0 : a1.length = a0.2.1.2.2.length := by rw [b4]
 refine TL.shut .hd ?_
 intro HF10_3 h1 m5
 have m7 := OwnS.read b3 h1 m5
 refine TL.nil (Plan.e1 ((a5.trans h1)) ?_)
 refine Plan.s1 10 [13, 14, 15, 16, 17, 18] kA kA rfl ?_
 refine TL.call [] rfl rfl rfl (k_80 _ _ a0.2.2.1 (c3.mono (s6.trans (e0.trans (a5.trans h1)))) bA) ?_
 intro f1 f2 f3 a8 c8
 obtain ⟨c9, rfl, b5⟩ := c8
 obtain ⟨a4, b6⟩ : ∃ x, x = a0.2.2.1 := ⟨_, rfl⟩
 rw [← b6] at b5
 obtain ⟨b7, b8, rfl, f4, f5⟩ := OwnS.shape b5
 have f6 : a4.length = a0.2.2.1.length := by rw [b6]
 refine TL.nil (Plan.e1 (a8) ?_)
 refine Plan.s1 13 [14, 15, 16, 17, 18] kA kA rfl ?_
 refine stY (l := [sl A6 x6 p6]) (new := (c24 a0.1 [.int .i64 (a0.2.1.1), sl A6 x6 p6, sl c4 a0.2.1.2.2 c5, sl a9 a0.2.2.1 b0, sl a2 a0.2.2.2 a3])) (.tl (.tl .hd)) sizeOf24 rfl (cells1 rfl) ?_
 refine eB ?_
 refine vP 14 [15, 16, 17, 18] rfl underlying31 rfl sizeOf27 ?_
 refine vP 15 [16, 17, 18] rfl underlying27 rfl sizeOf25 ?_
 refine Plan.s1 16 [17, 18] kA kA rfl ?_
 refine stY (l := [sl a6 a1 a7]) (new := (c24 a0.1 [.int .i64 (a0.2.1.1), sl A6 x6 p6, sl a6 a1 a7, sl a9 a0.2.2.1 b0, sl a2 a0.2.2.2 a3])) (.tl (.tl .hd)) sizeOf25 rfl (cells1 rfl) ?_
 refine eB ?_
 refine vP 17 [18] rfl underlying31 rfl sizeOf28 ?_
 refine Plan.s1 18 [] kA kA rfl ?_
 refine stY (l := [sl b7 a4 b8]) (new := (c24 a0.1 [.int .i64 (a0.2.1.1), sl A6 x6 p6, sl a6 a1 a7, sl b7 a4 b8, sl a2 a0.2.2.2 a3])) (.tl (.tl .hd)) sizeOf28 rfl (cells1 rfl) ?_
 refine eB ?_
 refine Plan.done (Post.thnN ?_)
 exact ⟨(sl A6 x6 p6, x6, sl a6 a1 a7, a1, sl b7 a4 b8, a4, c9), (s6.trans (e0.trans (a5.trans (h1.trans a8)))), ⟨(Has.cons (.tl .hd) (Has.cons (.tl .hd) (Has.cons .hd Has.nil))), (j2.mono (a5.trans (h1.trans a8))), (m7.mono a8), b5, (by subst b6; subst b4; subst e6; rfl)⟩, rfl, rfl, trivial⟩
 refine R.ld isAgg28 rfl rfl (.tl .hd) rfl ?_
 refine eA ?_
 refine Plan.s1 6 [7, 10, 11, 12, 13, 14, 15, 16, 17, 18] kA kA rfl ?_
 refine R.ld isAgg25 rfl rfl (.tl .hd) rfl ?_
 refine eA ?_
 refine vP 11 [7, 10, 12, 13, 14, 15, 16, 17, 18] rfl underlying31 rfl sizeOf27 ?_
 refine vP 12 [7, 10, 13, 14, 15, 16, 17, 18] rfl underlying27 rfl sizeOf24 ?_
 refine Plan.s1 7 [10, 13, 14, 15, 16, 17, 18] kA kA rfl ?_
 refine TL.call [] rfl rfl rfl (k_86 _ _ a0.2.1.2.2 (c2.mono (s6.trans e0)) bA) ?_
 intro e3 e4 e5 a5 c7
 obtain ⟨e7, rfl, b3⟩ := c7
 obtain ⟨a1, b4⟩ : ∃ x, x = a0.2.1.2.2 := ⟨_, rfl⟩
 rw [← b4] at b3
 obtain ⟨a6, a7, rfl, e8, e9⟩ := OwnS.shape b3
 have f0 : a1.length = a0.2.1.2.2.length := by rw [b4]
 refine TL.shut .hd ?_
 intro HF10_4 h3 m8
 have m9 := OwnS.read b3 h3 m8
 refine TL.nil (Plan.e1 ((a5.trans h3)) ?_)
 refine Plan.s1 10 [13, 14, 15, 16, 17, 18] kA kA rfl ?_
 refine TL.call [] rfl rfl rfl (k_80 _ _ a0.2.2.1 (c3.mono (s6.trans (e0.trans (a5.trans h3)))) bA) ?_
 intro f1 f2 f3 a8 c8
 obtain ⟨c9, rfl, b5⟩ := c8
 obtain ⟨a4, b6⟩ : ∃ x, x = a0.2.2.1 := ⟨_, rfl⟩
 rw [← b6] at b5
 obtain ⟨b7, b8, rfl, f4, f5⟩ := OwnS.shape b5
 have f6 : a4.length = a0.2.2.1.length := by rw [b6]
 refine TL.nil (Plan.e1 (a8) ?_)
 refine Plan.s1 13 [14, 15, 16, 17, 18] kA kA rfl ?_
 refine stY (l := [sl A6 x6 p6]) (new := (c24 a0.1 [.int .i64 (a0.2.1.1), sl A6 x6 p6, sl c4 a0.2.1.2.2 c5, sl a9 a0.2.2.1 b0, sl a2 a0.2.2.2 a3])) (.tl (.tl .hd)) sizeOf24 rfl (cells1 rfl) ?_
 refine eB ?_
 refine vP 14 [15, 16, 17, 18] rfl underlying31 rfl sizeOf27 ?_
 refine vP 15 [16, 17, 18] rfl underlying27 rfl sizeOf25 ?_
 refine Plan.s1 16 [17, 18] kA kA rfl ?_
 refine stY (l := [sl a6 a1 a7]) (new := (c24 a0.1 [.int .i64 (a0.2.1.1), sl A6 x6 p6, sl a6 a1 a7, sl a9 a0.2.2.1 b0, sl a2 a0.2.2.2 a3])) (.tl (.tl .hd)) sizeOf25 rfl (cells1 rfl) ?_
 refine eB ?_
 refine vP 17 [18] rfl underlying31 rfl sizeOf28 ?_
 refine Plan.s1 18 [] kA kA rfl ?_
 refine stY (l := [sl b7 a4 b8]) (new := (c24 a0.1 [.int .i64 (a0.2.1.1), sl A6 x6 p6, sl a6 a1 a7, sl b7 a4 b8, sl a2 a0.2.2.2 a3])) (.tl (.tl .hd)) sizeOf28 rfl (cells1 rfl) ?_
 refine eB ?_
 refine Plan.done (Post.thnN ?_)
 exact ⟨(sl A6 x6 p6, x6, sl a6 a1 a7, a1, sl b7 a4 b8, a4, c9), (s6.trans (e0.trans (a5.trans (h3.trans a8)))), ⟨(Has.cons (.tl .hd) (Has.cons (.tl .hd) (Has.cons .hd Has.nil))), (j2.mono (a5.trans (h3.trans a8))), (m9.mono a8), b5, (by subst b6; subst b4; subst e6; rfl)⟩, rfl, rfl, trivial⟩
 refine R.ld isAgg25 rfl rfl (.tl .hd) rfl ?_
 refine eA ?_
 refine Plan.s2 3 9 [7, 9, 10, 11, 12, 13, 14, 15, 16, 17, 18] [3, 7, 10, 11, 12, 13, 14, 15, 16, 17, 18] kA kA kA rfl rfl ?_ ?_
 refine TL.call [] rfl rfl rfl (k_a8 _ _ a0.2.1.2.1 d0 bA) ?_
 intro v6 H6 L6 s6 q6
 obtain ⟨c6, rfl, w6⟩ := q6
 obtain ⟨x6, e6⟩ : ∃ x, x = a0.2.1.2.1 := ⟨_, rfl⟩
 rw [← e6] at w6
 obtain ⟨A6, p6, rfl, m6, n6⟩ := OwnS.shape w6
 have t6 : x6.length = a0.2.1.2.1.length := by rw [e6]
 refine TL.shut .hd ?_
 intro HF6_5 f7 p4
 have k4 := OwnS.read w6 f7 p4
 refine TL.nil (Plan.e1 ((s6.trans f7)) ?_)
 refine Plan.s2 7 9 [9, 10, 11, 12, 13, 14, 15, 16, 17, 18] [7, 10, 11, 12, 13, 14, 15, 16, 17, 18] kA kA kA rfl rfl ?_ ?_
 refine TL.call [] rfl rfl rfl (k_86 _ _ a0.2.1.2.2 (c2.mono (s6.trans f7)) bA) ?_
 intro e3 e4 e5 a5 c7
 obtain ⟨e7, rfl, b3⟩ := c7
 obtain ⟨a1, b4⟩ : ∃ x, x = a0.2.1.2.2 := ⟨_, rfl⟩
 rw [← b4] at b3
 obtain ⟨a6, a7, rfl, e8, e9⟩ := OwnS.shape b3
 have f0 : a1.length = a0.2.1.2.2.length := by rw [b4]
 refine TL.shut .hd ?_
 intro HF10_6 h4 n0
 have n1 := OwnS.read b3 h4 n0
 refine TL.nil (Plan.e1 ((a5.trans h4)) ?_)
 refine Plan.s1 9 [10, 11, 12, 13, 14, 15, 16, 17, 18] kA kA rfl ?_
 refine R.ld isAgg28 rfl rfl (.tl .hd) rfl ?_
 refine eA ?_
 refine vP 11 [10, 12, 13, 14, 15, 16, 17, 18] rfl underlying31 rfl sizeOf27 ?_
 refine vP 12 [10, 13, 14, 15, 16, 17, 18] rfl underlying27 rfl sizeOf24 ?_
 refine Plan.s1 10 [13, 14, 15, 16, 17, 18] kA kA rfl ?_
 refine TL.call [] rfl rfl rfl (k_80 _ _ a0.2.2.1 (c3.mono (s6.trans (f7.trans (a5.trans h4)))) bA) ?_
 intro f1 f2 f3 a8 c8
 obtain ⟨c9, rfl, b5⟩ := c8
 obtain ⟨a4, b6⟩ : ∃ x, x = a0.2.2.1 := ⟨_, rfl⟩
 rw [← b6] at b5
 obtain ⟨b7, b8, rfl, f4, f5⟩ := OwnS.shape b5
 have f6 : a4.length = a0.2.2.1.length := by rw [b6]
 refine TL.nil (Plan.e1 (a8) ?_)
 refine Plan.s1 13 [14, 15, 16, 17, 18] kA kA rfl ?_
 refine stY (l := [sl A6 x6 p6]) (new := (c24 a0.1 [.int .i64 (a0.2.1.1), sl A6 x6 p6, sl c4 a0.2.1.2.2 c5, sl a9 a0.2.2.1 b0, sl a2 a0.2.2.2 a3])) (.tl (.tl .hd)) sizeOf24 rfl (cells1 rfl) ?_
 refine eB ?_
 refine vP 14 [15, 16, 17, 18] rfl underlying31 rfl sizeOf27 ?_
 refine vP 15 [16, 17, 18] rfl underlying27 rfl sizeOf25 ?_
 refine Plan.s1 16 [17, 18] kA kA rfl ?_
 refine stY (l := [sl a6 a1 a7]) (new := (c24 a0.1 [.int .i64 (a0.2.1.1), sl A6 x6 p6, sl a6 a1 a7, sl a9 a0.2.2.1 b0, sl a2 a0.2.2.2 a3])) (.tl (.tl .hd)) sizeOf25 rfl (cells1 rfl) ?_
 refine eB ?_
 refine vP 17 [18] rfl underlying31 rfl sizeOf28 ?_
 refine Plan.s1 18 [] kA kA rfl ?_
 refine stY (l := [sl b7 a4 b8]) (new := (c24 a0.1 [.int .i64 (a0.2.1.1), sl A6 x6 p6, sl a6 a1 a7, sl b7 a4 b8, sl a2 a0.2.2.2 a3])) (.tl (.tl .hd)) sizeOf28 rfl (cells1 rfl) ?_
 refine eB ?_
 refine Plan.done (Post.thnN ?_)
 exact ⟨(sl A6 x6 p6, x6, sl a6 a1 a7, a1, sl b7 a4 b8, a4, c9), (s6.trans (f7.trans (a5.trans (h4.trans a8)))), ⟨(Has.cons (.tl .hd) (Has.cons (.tl .hd) (Has.cons .hd Has.nil))), (k4.mono (a5.trans (h4.trans a8))), (n1.mono a8), b5, (by subst b6; subst b4; subst e6; rfl)⟩, rfl, rfl, trivial⟩
 refine R.ld isAgg28 rfl rfl (.tl .hd) rfl ?_
 refine eA ?_
 refine vP 11 [7, 10, 12, 13, 14, 15, 16, 17, 18] rfl underlying31 rfl sizeOf27 ?_
 refine vP 12 [7, 10, 13, 14, 15, 16, 17, 18] rfl underlying27 rfl sizeOf24 ?_
 refine Plan.s1 7 [10, 13, 14, 15, 16, 17, 18] kA kA rfl ?_
 refine TL.call [] rfl rfl rfl (k_86 _ _ a0.2.1.2.2 (c2.mono (s6.trans f7)) bA) ?_
 intro e3 e4 e5 a5 c7
 obtain ⟨e7, rfl, b3⟩ := c7
 obtain ⟨a1, b4⟩ : ∃ x, x = a0.2.1.2.2 := ⟨_, rfl⟩
 rw [← b4] at b3
 obtain ⟨a6, a7, rfl, e8, e9⟩ := OwnS.shape b3
 have f0 : a1.length = a0.2.1.2.2.length := by rw [b4]
 refine TL.shut .hd ?_
 intro HF10_7 h5 n2
 have n3 := OwnS.read b3 h5 n2
 refine TL.nil (Plan.e1 ((a5.trans h5)) ?_)
 refine Plan.s1 10 [13, 14, 15, 16, 17, 18] kA kA rfl ?_
 refine TL.call [] rfl rfl rfl (k_80 _ _ a0.2.2.1 (c3.mono (s6.trans (f7.trans (a5.trans h5)))) bA) ?_
 intro f1 f2 f3 a8 c8
 obtain ⟨c9, rfl, b5⟩ := c8
 obtain ⟨a4, b6⟩ : ∃ x, x = a0.2.2.1 := ⟨_, rfl⟩
 rw [← b6] at b5
 obtain ⟨b7, b8, rfl, f4, f5⟩ := OwnS.shape b5
 have f6 : a4.length = a0.2.2.1.length := by rw [b6]
 refine TL.nil (Plan.e1 (a8) ?_)
 refine Plan.s1 13 [14, 15, 16, 17, 18] kA kA rfl ?_
 refine stY (l := [sl A6 x6 p6]) (new := (c24 a0.1 [.int .i64 (a0.2.1.1), sl A6 x6 p6, sl c4 a0.2.1.2.2 c5, sl a9 a0.2.2.1 b0, sl a2 a0.2.2.2 a3])) (.tl (.tl .hd)) sizeOf24 rfl (cells1 rfl) ?_
 refine eB ?_
 refine vP 14 [15, 16, 17, 18] rfl underlying31 rfl sizeOf27 ?_
 refine vP 15 [16, 17, 18] rfl underlying27 rfl sizeOf25 ?_
 refine Plan.s1 16 [17, 18] kA kA rfl ?_
 refine stY (l := [sl a6 a1 a7]) (new := (c24 a0.1 [.int .i64 (a0.2.1.1), sl A6 x6 p6, sl a6 a1 a7, sl a9 a0.2.2.1 b0, sl a2 a0.2.2.2 a3])) (.tl (.tl .hd)) sizeOf25 rfl (cells1 rfl) ?_
 refine eB ?_
 refine vP 17 [18] rfl underlying31 rfl sizeOf28 ?_
 refine Plan.s1 18 [] kA kA rfl ?_
 refine stY (l := [sl b7 a4 b8]) (new := (c24 a0.1 [.int .i64 (a0.2.1.1), sl A6 x6 p6, sl a6 a1 a7, sl b7 a4 b8, sl a2 a0.2.2.2 a3])) (.tl (.tl .hd)) sizeOf28 rfl (cells1 rfl) ?_
 refine eB ?_
 refine Plan.done (Post.thnN ?_)
 exact ⟨(sl A6 x6 p6, x6, sl a6 a1 a7, a1, sl b7 a4 b8, a4, c9), (s6.trans (f7.trans (a5.trans (h5.trans a8)))), ⟨(Has.cons (.tl .hd) (Has.cons (.tl .hd) (Has.cons .hd Has.nil))), (k4.mono (a5.trans (h5.trans a8))), (n3.mono a8), b5, (by subst b6; subst b4; subst e6; rfl)⟩, rfl, rfl, trivial⟩
 refine R.ld isAgg28 rfl rfl (.tl .hd) rfl ?_
 refine eA ?_
 refine Plan.s1 3 [7, 10, 11, 12, 13, 14, 15, 16, 17, 18] kA kA rfl ?_
 refine TL.call [] rfl rfl rfl (k_a8 _ _ a0.2.1.2.1 d0 bA) ?_
 intro v6 H6 L6 s6 q6
 obtain ⟨c6, rfl, w6⟩ := q6
 obtain ⟨x6, e6⟩ : ∃ x, x = a0.2.1.2.1 := ⟨_, rfl⟩
 rw [← e6] at w6
 obtain ⟨A6, p6, rfl, m6, n6⟩ := OwnS.shape w6
 have t6 : x6.length = a0.2.1.2.1.length := by rw [e6]
 refine TL.shut .hd ?_
 intro HF6_8 i7 p5
 have p7 := OwnS.read w6 i7 p5
 refine TL.nil (Plan.e1 ((s6.trans i7)) ?_)
 refine vP 11 [7, 10, 12, 13, 14, 15, 16, 17, 18] rfl underlying31 rfl sizeOf27 ?_
 refine vP 12 [7, 10, 13, 14, 15, 16, 17, 18] rfl underlying27 rfl sizeOf24 ?_
 refine Plan.s1 7 [10, 13, 14, 15, 16, 17, 18] kA kA rfl ?_
 refine TL.call [] rfl rfl rfl (k_86 _ _ a0.2.1.2.2 (c2.mono (s6.trans i7)) bA) ?_
 intro e3 e4 e5 a5 c7
 obtain ⟨e7, rfl, b3⟩ := c7
 obtain ⟨a1, b4⟩ : ∃ x, x = a0.2.1.2.2 := ⟨_, rfl⟩
 rw [← b4] at b3
 obtain ⟨a6, a7, rfl, e8, e9⟩ := OwnS.shape b3
 have f0 : a1.length = a0.2.1.2.2.length := by rw [b4]
 refine TL.shut .hd ?_
 intro HF10_9 h6 n4
 have n5 := OwnS.read b3 h6 n4
 refine TL.nil (Plan.e1 ((a5.trans h6)) ?_)
 refine Plan.s1 10 [13, 14, 15, 16, 17, 18] kA kA rfl ?_
 refine TL.call [] rfl rfl rfl (k_80 _ _ a0.2.2.1 (c3.mono (s6.trans (i7.trans (a5.trans h6)))) bA) ?_
 intro f1 f2 f3 a8 c8
 obtain ⟨c9, rfl, b5⟩ := c8
 obtain ⟨a4, b6⟩ : ∃ x, x = a0.2.2.1 := ⟨_, rfl⟩
 rw [← b6] at b5
 obtain ⟨b7, b8, rfl, f4, f5⟩ := OwnS.shape b5
 have f6 : a4.length = a0.2.2.1.length := by rw [b6]
 refine TL.nil (Plan.e1 (a8) ?_)
 refine Plan.s1 13 [14, 15, 16, 17, 18] kA kA rfl ?_
 refine stY (l := [sl A6 x6 p6]) (new := (c24 a0.1 [.int .i64 (a0.2.1.1), sl A6 x6 p6, sl c4 a0.2.1.2.2 c5, sl a9 a0.2.2.1 b0, sl a2 a0.2.2.2 a3])) (.tl (.tl .hd)) sizeOf24 rfl (cells1 rfl) ?_
 refine eB ?_
 refine vP 14 [15, 16, 17, 18] rfl underlying31 rfl sizeOf27 ?_
 refine vP 15 [16, 17, 18] rfl underlying27 rfl sizeOf25 ?_
 refine Plan.s1 16 [17, 18] kA kA rfl ?_
 refine stY (l := [sl a6 a1 a7]) (new := (c24 a0.1 [.int .i64 (a0.2.1.1), sl A6 x6 p6, sl a6 a1 a7, sl a9 a0.2.2.1 b0, sl a2 a0.2.2.2 a3])) (.tl (.tl .hd)) sizeOf25 rfl (cells1 rfl) ?_
 refine eB ?_
 refine vP 17 [18] rfl underlying31 rfl sizeOf28 ?_
 refine Plan.s1 18 [] kA kA rfl ?_
 refine stY (l := [sl b7 a4 b8]) (new := (c24 a0.1 [.int .i64 (a0.2.1.1), sl A6 x6 p6, sl a6 a1 a7, sl b7 a4 b8, sl a2 a0.2.2.2 a3])) (.tl (.tl .hd)) sizeOf28 rfl (cells1 rfl) ?_
 refine eB ?_
 refine Plan.done (Post.thnN ?_)
 exact ⟨(sl A6 x6 p6, x6, sl a6 a1 a7, a1, sl b7 a4 b8, a4, c9), (s6.trans (i7.trans (a5.trans (h6.trans a8)))), ⟨(Has.cons (.tl .hd) (Has.cons (.tl .hd) (Has.cons .hd Has.nil))), (p7.mono (a5.trans (h6.trans a8))), (n5.mono a8), b5, (by subst b6; subst b4; subst e6; rfl)⟩, rfl, rfl, trivial⟩
 refine R.ld isAgg28 rfl rfl (.tl .hd) rfl ?_
 refine eA ?_
 refine Plan.s2 3 6 [6, 7, 10, 11, 12, 13, 14, 15, 16, 17, 18] [3, 7, 10, 11, 12, 13, 14, 15, 16, 17, 18] kA kA kA rfl rfl ?_ ?_
 refine TL.call [] rfl rfl rfl (k_a8 _ _ a0.2.1.2.1 d0 bA) ?_
 intro v6 H6 L6 s6 q6
 obtain ⟨c6, rfl, w6⟩ := q6
 obtain ⟨x6, e6⟩ : ∃ x, x = a0.2.1.2.1 := ⟨_, rfl⟩
 rw [← e6] at w6
 obtain ⟨A6, p6, rfl, m6, n6⟩ := OwnS.shape w6
 have t6 : x6.length = a0.2.1.2.1.length := by rw [e6]
 refine TL.shut .hd ?_
 intro HF6_10 h7 n7
 have n8 := OwnS.read w6 h7 n7
 refine TL.nil (Plan.e1 ((s6.trans h7)) ?_)
 refine Plan.s1 6 [7, 10, 11, 12, 13, 14, 15, 16, 17, 18] kA kA rfl ?_
 refine R.ld isAgg25 rfl rfl (.tl .hd) rfl ?_
 refine eA ?_
 refine vP 11 [7, 10, 12, 13, 14, 15, 16, 17, 18] rfl underlying31 rfl sizeOf27 ?_
 refine vP 12 [7, 10, 13, 14, 15, 16, 17, 18] rfl underlying27 rfl sizeOf24 ?_
 refine Plan.s1 7 [10, 13, 14, 15, 16, 17, 18] kA kA rfl ?_
 refine TL.call [] rfl rfl rfl (k_86 _ _ a0.2.1.2.2 (c2.mono (s6.trans h7)) bA) ?_
 intro e3 e4 e5 a5 c7
 obtain ⟨e7, rfl, b3⟩ := c7
 obtain ⟨a1, b4⟩ : ∃ x, x = a0.2.1.2.2 := ⟨_, rfl⟩
 rw [← b4] at b3
 obtain ⟨a6, a7, rfl, e8, e9⟩ := OwnS.shape b3
 have f0 : a1.length = a0.2.1.2.2.length := by rw [b4]
 refine TL.shut .hd ?_
 intro r8 f8 k5
 have k6 := OwnS.read b3 f8 k5
 refine TL.nil (Plan.e1 ((a5.trans f8)) ?_)
 refine Plan.s1 10 [13, 14, 15, 16, 17, 18] kA kA rfl ?_
 refine TL.call [] rfl rfl rfl (k_80 _ _ a0.2.2.1 (c3.mono (s6.trans (h7.trans (a5.trans f8)))) bA) ?_
 intro f1 f2 f3 a8 c8
 obtain ⟨c9, rfl, b5⟩ := c8
 obtain ⟨a4, b6⟩ : ∃ x, x = a0.2.2.1 := ⟨_, rfl⟩
 rw [← b6] at b5
 obtain ⟨b7, b8, rfl, f4, f5⟩ := OwnS.shape b5
 have f6 : a4.length = a0.2.2.1.length := by rw [b6]
 refine TL.nil (Plan.e1 (a8) ?_)
 refine Plan.s1 13 [14, 15, 16, 17, 18] kA kA rfl ?_
 refine stY (l := [sl A6 x6 p6]) (new := (c24 a0.1 [.int .i64 (a0.2.1.1), sl A6 x6 p6, sl c4 a0.2.1.2.2 c5, sl a9 a0.2.2.1 b0, sl a2 a0.2.2.2 a3])) (.tl (.tl .hd)) sizeOf24 rfl (cells1 rfl) ?_
 refine eB ?_
 refine vP 14 [15, 16, 17, 18] rfl underlying31 rfl sizeOf27 ?_
 refine vP 15 [16, 17, 18] rfl underlying27 rfl sizeOf25 ?_
 refine Plan.s1 16 [17, 18] kA kA rfl ?_
 refine stY (l := [sl a6 a1 a7]) (new := (c24 a0.1 [.int .i64 (a0.2.1.1), sl A6 x6 p6, sl a6 a1 a7, sl a9 a0.2.2.1 b0, sl a2 a0.2.2.2 a3])) (.tl (.tl .hd)) sizeOf25 rfl (cells1 rfl) ?_
 refine eB ?_
 refine vP 17 [18] rfl underlying31 rfl sizeOf28 ?_
 refine Plan.s1 18 [] kA kA rfl ?_
 refine stY (l := [sl b7 a4 b8]) (new := (c24 a0.1 [.int .i64 (a0.2.1.1), sl A6 x6 p6, sl a6 a1 a7, sl b7 a4 b8, sl a2 a0.2.2.2 a3])) (.tl (.tl .hd)) sizeOf28 rfl (cells1 rfl) ?_
 refine eB ?_
 refine Plan.done (Post.thnN ?_)
 exact ⟨(sl A6 x6 p6, x6, sl a6 a1 a7, a1, sl b7 a4 b8, a4, c9), (s6.trans (h7.trans (a5.trans (f8.trans a8)))), ⟨(Has.cons (.tl .hd) (Has.cons (.tl .hd) (Has.cons .hd Has.nil))), (n8.mono (a5.trans (f8.trans a8))), (k6.mono a8), b5, (by subst b6; subst b4; subst e6; rfl)⟩, rfl, rfl, trivial⟩
 refine R.ld isAgg25 rfl rfl (.tl .hd) rfl ?_
 refine eA ?_
 refine Plan.s1 3 [7, 10, 11, 12, 13, 14, 15, 16, 17, 18] kA kA rfl ?_
 refine TL.call [] rfl rfl rfl (k_a8 _ _ a0.2.1.2.1 d0 bA) ?_
 intro v6 H6 L6 s6 q6
 obtain ⟨c6, rfl, w6⟩ := q6
 obtain ⟨x6, e6⟩ : ∃ x, x = a0.2.1.2.1 := ⟨_, rfl⟩
 rw [← e6] at w6
 obtain ⟨A6, p6, rfl, m6, n6⟩ := OwnS.shape w6
 have t6 : x6.length = a0.2.1.2.1.length := by rw [e6]
 refine TL.shut .hd ?_
 intro HF6_12 h8 n9
 have o0 := OwnS.read w6 h8 n9
 refine TL.nil (Plan.e1 ((s6.trans h8)) ?_)
 refine vP 11 [7, 10, 12, 13, 14, 15, 16, 17, 18] rfl underlying31 rfl sizeOf27 ?_
 refine vP 12 [7, 10, 13, 14, 15, 16, 17, 18] rfl underlying27 rfl sizeOf24 ?_
 refine Plan.s1 7 [10, 13, 14, 15, 16, 17, 18] kA kA rfl ?_
 refine TL.call [] rfl rfl rfl (k_86 _ _ a0.2.1.2.2 (c2.mono (s6.trans h8)) bA) ?_
 intro e3 e4 e5 a5 c7
 obtain ⟨e7, rfl, b3⟩ := c7
 obtain ⟨a1, b4⟩ : ∃ x, x = a0.2.1.2.2 := ⟨_, rfl⟩
 rw [← b4] at b3
 obtain ⟨a6, a7, rfl, e8, e9⟩ := OwnS.shape b3
 have f0 : a1.length = a0.2.1.2.2.length := by rw [b4]
 refine TL.shut .hd ?_
 intro r9 f9 k7
 have k8 := OwnS.read b3 f9 k7
 refine TL.nil (Plan.e1 ((a5.trans f9)) ?_)
 refine Plan.s1 10 [13, 14, 15, 16, 17, 18] kA kA rfl ?_
 refine TL.call [] rfl rfl rfl (k_80 _ _ a0.2.2.1 (c3.mono (s6.trans (h8.trans (a5.trans f9)))) bA) ?_
 intro f1 f2 f3 a8 c8
 obtain ⟨c9, rfl, b5⟩ := c8
 obtain ⟨a4, b6⟩ : ∃ x, x = a0.2.2.1 := ⟨_, rfl⟩
 rw [← b6] at b5
 obtain ⟨b7, b8, rfl, f4, f5⟩ := OwnS.shape b5
 have f6 : a4.length = a0.2.2.1.length := by rw [b6]
 refine TL.nil (Plan.e1 (a8) ?_)
 refine Plan.s1 13 [14, 15, 16, 17, 18] kA kA rfl ?_
 refine stY (l := [sl A6 x6 p6]) (new := (c24 a0.1 [.int .i64 (a0.2.1.1), sl A6 x6 p6, sl c4 a0.2.1.2.2 c5, sl a9 a0.2.2.1 b0, sl a2 a0.2.2.2 a3])) (.tl (.tl .hd)) sizeOf24 rfl (cells1 rfl) ?_
 refine eB ?_
 refine vP 14 [15, 16, 17, 18] rfl underlying31 rfl sizeOf27 ?_
 refine vP 15 [16, 17, 18] rfl underlying27 rfl sizeOf25 ?_
 refine Plan.s1 16 [17, 18] kA kA rfl ?_
 refine stY (l := [sl a6 a1 a7]) (new := (c24 a0.1 [.int .i64 (a0.2.1.1), sl A6 x6 p6, sl a6 a1 a7, sl a9 a0.2.2.1 b0, sl a2 a0.2.2.2 a3])) (.tl (.tl .hd)) sizeOf25 rfl (cells1 rfl) ?_
 refine eB ?_
 refine vP 17 [18] rfl underlying31 rfl sizeOf28 ?_
 refine Plan.s1 18 [] kA kA rfl ?_
 refine stY (l := [sl b7 a4 b8]) (new := (c24 a0.1 [.int .i64 (a0.2.1.1), sl A6 x6 p6, sl a6 a1 a7, sl b7 a4 b8, sl a2 a0.2.2.2 a3])) (.tl (.tl .hd)) sizeOf28 rfl (cells1 rfl) ?_
 refine eB ?_
 refine Plan.done (Post.thnN ?_)
 exact ⟨(sl A6 x6 p6, x6, sl a6 a1 a7, a1, sl b7 a4 b8, a4, c9), (s6.trans (h8.trans (a5.trans (f9.trans a8)))), ⟨(Has.cons (.tl .hd) (Has.cons (.tl .hd) (Has.cons .hd Has.nil))), (o0.mono (a5.trans (f9.trans a8))), (k8.mono a8), b5, (by subst b6; subst b4; subst e6; rfl)⟩, rfl, rfl, trivial⟩
 refine R.ld isAgg25 rfl rfl (.tl .hd) rfl ?_
 refine eA ?_
 refine Plan.s2 2 9 [3, 7, 9, 10, 11, 12, 13, 14, 15, 16, 17, 18] [2, 3, 7, 10, 11, 12, 13, 14, 15, 16, 17, 18] kA kA kA rfl rfl ?_ ?_
 refine R.ld isAgg24 rfl rfl (.tl .hd) rfl ?_
 refine eA ?_
 refine Plan.s2 3 9 [7, 9, 10, 11, 12, 13, 14, 15, 16, 17, 18] [3, 7, 10, 11, 12, 13, 14, 15, 16, 17, 18] kA kA kA rfl rfl ?_ ?_
 refine TL.call [] rfl rfl rfl (k_a8 _ _ a0.2.1.2.1 d0 bA) ?_
 intro v6 H6 L6 s6 q6
 obtain ⟨c6, rfl, w6⟩ := q6
 obtain ⟨x6, e6⟩ : ∃ x, x = a0.2.1.2.1 := ⟨_, rfl⟩
 rw [← e6] at w6
 obtain ⟨A6, p6, rfl, m6, n6⟩ := OwnS.shape w6
 have t6 : x6.length = a0.2.1.2.1.length := by rw [e6]
 refine TL.shut .hd ?_
 intro HF6_14 e2 o1
 have j7 := OwnS.read w6 e2 o1
 refine TL.nil (Plan.e1 ((s6.trans e2)) ?_)
 refine Plan.s2 7 9 [9, 10, 11, 12, 13, 14, 15, 16, 17, 18] [7, 10, 11, 12, 13, 14, 15, 16, 17, 18] kA kA kA rfl rfl ?_ ?_
 refine TL.call [] rfl rfl rfl (k_86 _ _ a0.2.1.2.2 (c2.mono (s6.trans e2)) bA) ?_
 intro e3 e4 e5 a5 c7
 obtain ⟨e7, rfl, b3⟩ := c7
 obtain ⟨a1, b4⟩ : ∃ x, x = a0.2.1.2.2 := ⟨_, rfl⟩
 rw [← b4] at b3
 obtain ⟨a6, a7, rfl, e8, e9⟩ := OwnS.shape b3
 have f0 : a1.length = a0.2.1.2.2.length := by rw [b4]
 refine TL.shut .hd ?_
 intro s0 g0 k9
 have l0 := OwnS.read b3 g0 k9
 refine TL.nil (Plan.e1 ((a5.trans g0)) ?_)
 refine Plan.s1 9 [10, 11, 12, 13, 14, 15, 16, 17, 18] kA kA rfl ?_
 refine R.ld isAgg28 rfl rfl (.tl .hd) rfl ?_
 refine eA ?_
 refine vP 11 [10, 12, 13, 14, 15, 16, 17, 18] rfl underlying31 rfl sizeOf27 ?_
 refine vP 12 [10, 13, 14, 15, 16, 17, 18] rfl underlying27 rfl sizeOf24 ?_
 refine Plan.s1 10 [13, 14, 15, 16, 17, 18] kA kA rfl ?_
 refine TL.call [] rfl rfl rfl (k_80 _ _ a0.2.2.1 (c3.mono (s6.trans (e2.trans (a5.trans g0)))) bA) ?_
 intro f1 f2 f3 a8 c8
 obtain ⟨c9, rfl, b5⟩ := c8
 obtain ⟨a4, b6⟩ : ∃ x, x = a0.2.2.1 := ⟨_, rfl⟩
 rw [← b6] at b5
 obtain ⟨b7, b8, rfl, f4, f5⟩ := OwnS.shape b5
 have f6 : a4.length = a0.2.2.1.length := by rw [b6]
 refine TL.nil (Plan.e1 (a8) ?_)
 refine Plan.s1 13 [14, 15, 16, 17, 18] kA kA rfl ?_
 refine stY (l := [sl A6 x6 p6]) (new := (c24 a0.1 [.int .i64 (a0.2.1.1), sl A6 x6 p6, sl c4 a0.2.1.2.2 c5, sl a9 a0.2.2.1 b0, sl a2 a0.2.2.2 a3])) (.tl (.tl .hd)) sizeOf24 rfl (cells1 rfl) ?_
 refine eB ?_
 refine vP 14 [15, 16, 17, 18] rfl underlying31 rfl sizeOf27 ?_
 refine vP 15 [16, 17, 18] rfl underlying27 rfl sizeOf25 ?_
 refine Plan.s1 16 [17, 18] kA kA rfl ?_
 refine stY (l := [sl a6 a1 a7]) (new := (c24 a0.1 [.int .i64 (a0.2.1.1), sl A6 x6 p6, sl a6 a1 a7, sl a9 a0.2.2.1 b0, sl a2 a0.2.2.2 a3])) (.tl (.tl .hd)) sizeOf25 rfl (cells1 rfl) ?_
 refine eB ?_
 refine vP 17 [18] rfl underlying31 rfl sizeOf28 ?_
 refine Plan.s1 18 [] kA kA rfl ?_
 refine stY (l := [sl b7 a4 b8]) (new := (c24 a0.1 [.int .i64 (a0.2.1.1), sl A6 x6 p6, sl a6 a1 a7, sl b7 a4 b8, sl a2 a0.2.2.2 a3])) (.tl (.tl .hd)) sizeOf28 rfl (cells1 rfl) ?_
 refine eB ?_
 refine Plan.done (Post.thnN ?_)
 exact ⟨(sl A6 x6 p6, x6, sl a6 a1 a7, a1, sl b7 a4 b8, a4, c9), (s6.trans (e2.trans (a5.trans (g0.trans a8)))), ⟨(Has.cons (.tl .hd) (Has.cons (.tl .hd) (Has.cons .hd Has.nil))), (j7.mono (a5.trans (g0.trans a8))), (l0.mono a8), b5, (by subst b6; subst b4; subst e6; rfl)⟩, rfl, rfl, trivial⟩
 refine R.ld isAgg28 rfl rfl (.tl .hd) rfl ?_
 refine eA ?_
 refine vP 11 [7, 10, 12, 13, 14, 15, 16, 17, 18] rfl underlying31 rfl sizeOf27 ?_
 refine vP 12 [7, 10, 13, 14, 15, 16, 17, 18] rfl underlying27 rfl sizeOf24 ?_
 refine Plan.s1 7 [10, 13, 14, 15, 16, 17, 18] kA kA rfl ?_
 refine TL.call [] rfl rfl rfl (k_86 _ _ a0.2.1.2.2 (c2.mono (s6.trans e2)) bA) ?_
 intro e3 e4 e5 a5 c7
 obtain ⟨e7, rfl, b3⟩ := c7
 obtain ⟨a1, b4⟩ : ∃ x, x = a0.2.1.2.2 := ⟨_, rfl⟩
 rw [← b4] at b3
 obtain ⟨a6, a7, rfl, e8, e9⟩ := OwnS.shape b3
 have f0 : a1.length = a0.2.1.2.2.length := by rw [b4]
 refine TL.shut .hd ?_
 intro s4 g1 l1
 have l2 := OwnS.read b3 g1 l1
 refine TL.nil (Plan.e1 ((a5.trans g1)) ?_)
 refine Plan.s1 10 [13, 14, 15, 16, 17, 18] kA kA rfl ?_
 refine TL.call [] rfl rfl rfl (k_80 _ _ a0.2.2.1 (c3.mono (s6.trans (e2.trans (a5.trans g1)))) bA) ?_
 intro f1 f2 f3 a8 c8
 obtain ⟨c9, rfl, b5⟩ := c8
 obtain ⟨a4, b6⟩ : ∃ x, x = a0.2.2.1 := ⟨_, rfl⟩
 rw [← b6] at b5
 obtain ⟨b7, b8, rfl, f4, f5⟩ := OwnS.shape b5
 have f6 : a4.length = a0.2.2.1.length := by rw [b6]
 refine TL.nil (Plan.e1 (a8) ?_)
 refine Plan.s1 13 [14, 15, 16, 17, 18] kA kA rfl ?_
 refine stY (l := [sl A6 x6 p6]) (new := (c24 a0.1 [.int .i64 (a0.2.1.1), sl A6 x6 p6, sl c4 a0.2.1.2.2 c5, sl a9 a0.2.2.1 b0, sl a2 a0.2.2.2 a3])) (.tl (.tl .hd)) sizeOf24 rfl (cells1 rfl) ?_
 refine eB ?_
 refine vP 14 [15, 16, 17, 18] rfl underlying31 rfl sizeOf27 ?_
 refine vP 15 [16, 17, 18] rfl underlying27 rfl sizeOf25 ?_
 refine Plan.s1 16 [17, 18] kA kA rfl ?_
 refine stY (l := [sl a6 a1 a7]) (new := (c24 a0.1 [.int .i64 (a0.2.1.1), sl A6 x6 p6, sl a6 a1 a7, sl a9 a0.2.2.1 b0, sl a2 a0.2.2.2 a3])) (.tl (.tl .hd)) sizeOf25 rfl (cells1 rfl) ?_
 refine eB ?_
 refine vP 17 [18] rfl underlying31 rfl sizeOf28 ?_
 refine Plan.s1 18 [] kA kA rfl ?_
 refine stY (l := [sl b7 a4 b8]) (new := (c24 a0.1 [.int .i64 (a0.2.1.1), sl A6 x6 p6, sl a6 a1 a7, sl b7 a4 b8, sl a2 a0.2.2.2 a3])) (.tl (.tl .hd)) sizeOf28 rfl (cells1 rfl) ?_
 refine eB ?_
 refine Plan.done (Post.thnN ?_)
 exact ⟨(sl A6 x6 p6, x6, sl a6 a1 a7, a1, sl b7 a4 b8, a4, c9), (s6.trans (e2.trans (a5.trans (g1.trans a8)))), ⟨(Has.cons (.tl .hd) (Has.cons (.tl .hd) (Has.cons .hd Has.nil))), (j7.mono (a5.trans (g1.trans a8))), (l2.mono a8), b5, (by subst b6; subst b4; subst e6; rfl)⟩, rfl, rfl, trivial⟩
 refine R.ld isAgg28 rfl rfl (.tl .hd) rfl ?_
 refine eA ?_
 refine Plan.s1 3 [7, 10, 11, 12, 13, 14, 15, 16, 17, 18] kA kA rfl ?_
 refine TL.call [] rfl rfl rfl (k_a8 _ _ a0.2.1.2.1 d0 bA) ?_
 intro v6 H6 L6 s6 q6
 obtain ⟨c6, rfl, w6⟩ := q6
 obtain ⟨x6, e6⟩ : ∃ x, x = a0.2.1.2.1 := ⟨_, rfl⟩
 rw [← e6] at w6
 obtain ⟨A6, p6, rfl, m6, n6⟩ := OwnS.shape w6
 have t6 : x6.length = a0.2.1.2.1.length := by rw [e6]
 refine TL.shut .hd ?_
 intro HF6_17 h9 o2
 have o3 := OwnS.read w6 h9 o2
 refine TL.nil (Plan.e1 ((s6.trans h9)) ?_)
 refine vP 11 [7, 10, 12, 13, 14, 15, 16, 17, 18] rfl underlying31 rfl sizeOf27 ?_
 refine vP 12 [7, 10, 13, 14, 15, 16, 17, 18] rfl underlying27 rfl sizeOf24 ?_
 refine Plan.s1 7 [10, 13, 14, 15, 16, 17, 18] kA kA rfl ?_
 refine TL.call [] rfl rfl rfl (k_86 _ _ a0.2.1.2.2 (c2.mono (s6.trans h9)) bA) ?_
 intro e3 e4 e5 a5 c7
 obtain ⟨e7, rfl, b3⟩ := c7
 obtain ⟨a1, b4⟩ : ∃ x, x = a0.2.1.2.2 := ⟨_, rfl⟩
 rw [← b4] at b3
 obtain ⟨a6, a7, rfl, e8, e9⟩ := OwnS.shape b3
 have f0 : a1.length = a0.2.1.2.2.length := by rw [b4]
 refine TL.shut .hd ?_
 intro s5 g2 l3
 have l4 := OwnS.read b3 g2 l3
 refine TL.nil (Plan.e1 ((a5.trans g2)) ?_)
 refine Plan.s1 10 [13, 14, 15, 16, 17, 18] kA kA rfl ?_
 refine TL.call [] rfl rfl rfl (k_80 _ _ a0.2.2.1 (c3.mono (s6.trans (h9.trans (a5.trans g2)))) bA) ?_
 intro f1 f2 f3 a8 c8
 obtain ⟨c9, rfl, b5⟩ := c8
 obtain ⟨a4, b6⟩ : ∃ x, x = a0.2.2.1 := ⟨_, rfl⟩
 rw [← b6] at b5
 obtain ⟨b7, b8, rfl, f4, f5⟩ := OwnS.shape b5
 have f6 : a4.length = a0.2.2.1.length := by rw [b6]
 refine TL.nil (Plan.e1 (a8) ?_)
 refine Plan.s1 13 [14, 15, 16, 17, 18] kA kA rfl ?_
 refine stY (l := [sl A6 x6 p6]) (new := (c24 a0.1 [.int .i64 (a0.2.1.1), sl A6 x6 p6, sl c4 a0.2.1.2.2 c5, sl a9 a0.2.2.1 b0, sl a2 a0.2.2.2 a3])) (.tl (.tl .hd)) sizeOf24 rfl (cells1 rfl) ?_
 refine eB ?_
 refine vP 14 [15, 16, 17, 18] rfl underlying31 rfl sizeOf27 ?_
 refine vP 15 [16, 17, 18] rfl underlying27 rfl sizeOf25 ?_
 refine Plan.s1 16 [17, 18] kA kA rfl ?_
 refine stY (l := [sl a6 a1 a7]) (new := (c24 a0.1 [.int .i64 (a0.2.1.1), sl A6 x6 p6, sl a6 a1 a7, sl a9 a0.2.2.1 b0, sl a2 a0.2.2.2 a3])) (.tl (.tl .hd)) sizeOf25 rfl (cells1 rfl) ?_
 refine eB ?_
 refine vP 17 [18] rfl underlying31 rfl sizeOf28 ?_
 refine Plan.s1 18 [] kA kA rfl ?_
 refine stY (l := [sl b7 a4 b8]) (new := (c24 a0.1 [.int .i64 (a0.2.1.1), sl A6 x6 p6, sl a6 a1 a7, sl b7 a4 b8, sl a2 a0.2.2.2 a3])) (.tl (.tl .hd)) sizeOf28 rfl (cells1 rfl) ?_
 refine eB ?_
 refine Plan.done (Post.thnN ?_)
 exact ⟨(sl A6 x6 p6, x6, sl a6 a1 a7, a1, sl b7 a4 b8, a4, c9), (s6.trans (h9.trans (a5.trans (g2.trans a8)))), ⟨(Has.cons (.tl .hd) (Has.cons (.tl .hd) (Has.cons .hd Has.nil))), (o3.mono (a5.trans (g2.trans a8))), (l4.mono a8), b5, (by subst b6; subst b4; subst e6; rfl)⟩, rfl, rfl, trivial⟩
 refine R.ld isAgg28 rfl rfl (.tl .hd) rfl ?_
 refine eA ?_
 refine Plan.s1 2 [3, 7, 10, 11, 12, 13, 14, 15, 16, 17, 18] kA kA rfl ?_
 refine R.ld isAgg24 rfl rfl (.tl .hd) rfl ?_
 refine eA ?_
 refine Plan.s1 3 [7, 10, 11, 12, 13, 14, 15, 16, 17, 18] kA kA rfl ?_
 refine TL.call [] rfl rfl rfl (k_a8 _ _ a0.2.1.2.1 d0 bA) ?_
 intro v6 H6 L6 s6 q6
 obtain ⟨c6, rfl, w6⟩ := q6
 obtain ⟨x6, e6⟩ : ∃ x, x = a0.2.1.2.1 := ⟨_, rfl⟩
 rw [← e6] at w6
 obtain ⟨A6, p6, rfl, m6, n6⟩ := OwnS.shape w6
 have t6 : x6.length = a0.2.1.2.1.length := by rw [e6]
 refine TL.shut .hd ?_
 intro HF6_19 i0 o4
 have o5 := OwnS.read w6 i0 o4
 refine TL.nil (Plan.e1 ((s6.trans i0)) ?_)
 refine vP 11 [7, 10, 12, 13, 14, 15, 16, 17, 18] rfl underlying31 rfl sizeOf27 ?_
 refine vP 12 [7, 10, 13, 14, 15, 16, 17, 18] rfl underlying27 rfl sizeOf24 ?_
 refine Plan.s1 7 [10, 13, 14, 15, 16, 17, 18] kA kA rfl ?_
 refine TL.call [] rfl rfl rfl (k_86 _ _ a0.2.1.2.2 (c2.mono (s6.trans i0)) bA) ?_
 intro e3 e4 e5 a5 c7
 obtain ⟨e7, rfl, b3⟩ := c7
 obtain ⟨a1, b4⟩ : ∃ x, x = a0.2.1.2.2 := ⟨_, rfl⟩
 rw [← b4] at b3
 obtain ⟨a6, a7, rfl, e8, e9⟩ := OwnS.shape b3
 have f0 : a1.length = a0.2.1.2.2.length := by rw [b4]
 refine TL.shut .hd ?_
 intro s7 g3 l5
 have l6 := OwnS.read b3 g3 l5
 refine TL.nil (Plan.e1 ((a5.trans g3)) ?_)
 refine Plan.s1 10 [13, 14, 15, 16, 17, 18] kA kA rfl ?_
 refine TL.call [] rfl rfl rfl (k_80 _ _ a0.2.2.1 (c3.mono (s6.trans (i0.trans (a5.trans g3)))) bA) ?_
 intro f1 f2 f3 a8 c8
 obtain ⟨c9, rfl, b5⟩ := c8
 obtain ⟨a4, b6⟩ : ∃ x, x = a0.2.2.1 := ⟨_, rfl⟩
 rw [← b6] at b5
 obtain ⟨b7, b8, rfl, f4, f5⟩ := OwnS.shape b5
 have f6 : a4.length = a0.2.2.1.length := by rw [b6]
 refine TL.nil (Plan.e1 (a8) ?_)
 refine Plan.s1 13 [14, 15, 16, 17, 18] kA kA rfl ?_
 refine stY (l := [sl A6 x6 p6]) (new := (c24 a0.1 [.int .i64 (a0.2.1.1), sl A6 x6 p6, sl c4 a0.2.1.2.2 c5, sl a9 a0.2.2.1 b0, sl a2 a0.2.2.2 a3])) (.tl (.tl .hd)) sizeOf24 rfl (cells1 rfl) ?_
 refine eB ?_
 refine vP 14 [15, 16, 17, 18] rfl underlying31 rfl sizeOf27 ?_
 refine vP 15 [16, 17, 18] rfl underlying27 rfl sizeOf25 ?_
 refine Plan.s1 16 [17, 18] kA kA rfl ?_
 refine stY (l := [sl a6 a1 a7]) (new := (c24 a0.1 [.int .i64 (a0.2.1.1), sl A6 x6 p6, sl a6 a1 a7, sl a9 a0.2.2.1 b0, sl a2 a0.2.2.2 a3])) (.tl (.tl .hd)) sizeOf25 rfl (cells1 rfl) ?_
 refine eB ?_
 refine vP 17 [18] rfl underlying31 rfl sizeOf28 ?_
 refine Plan.s1 18 [] kA kA rfl ?_
 refine stY (l := [sl b7 a4 b8]) (new := (c24 a0.1 [.int .i64 (a0.2.1.1), sl A6 x6 p6, sl a6 a1 a7, sl b7 a4 b8, sl a2 a0.2.2.2 a3])) (.tl (.tl .hd)) sizeOf28 rfl (cells1 rfl) ?_
 refine eB ?_
 refine Plan.done (Post.thnN ?_)
 exact ⟨(sl A6 x6 p6, x6, sl a6 a1 a7, a1, sl b7 a4 b8, a4, c9), (s6.trans (i0.trans (a5.trans (g3.trans a8)))), ⟨(Has.cons (.tl .hd) (Has.cons (.tl .hd) (Has.cons .hd Has.nil))), (o5.mono (a5.trans (g3.trans a8))), (l6.mono a8), b5, (by subst b6; subst b4; subst e6; rfl)⟩, rfl, rfl, trivial⟩
 refine R.ld isAgg28 rfl rfl (.tl .hd) rfl ?_
 refine eA ?_
 refine Plan.s2 2 6 [3, 6, 7, 10, 11, 12, 13, 14, 15, 16, 17, 18] [2, 3, 7, 10, 11, 12, 13, 14, 15, 16, 17, 18] kA kA kA rfl rfl ?_ ?_
 refine R.ld isAgg24 rfl rfl (.tl .hd) rfl ?_
 refine eA ?_
 refine Plan.s2 3 6 [6, 7, 10, 11, 12, 13, 14, 15, 16, 17, 18] [3, 7, 10, 11, 12, 13, 14, 15, 16, 17, 18] kA kA kA rfl rfl ?_ ?_
 refine TL.call [] rfl rfl rfl (k_a8 _ _ a0.2.1.2.1 d0 bA) ?_
 intro v6 H6 L6 s6 q6
 obtain ⟨c6, rfl, w6⟩ := q6
 obtain ⟨x6, e6⟩ : ∃ x, x = a0.2.1.2.1 := ⟨_, rfl⟩
 rw [← e6] at w6
 obtain ⟨A6, p6, rfl, m6, n6⟩ := OwnS.shape w6
 have t6 : x6.length = a0.2.1.2.1.length := by rw [e6]
 refine TL.shut .hd ?_
 intro HF6_21 i1 o6
 have o7 := OwnS.read w6 i1 o6
 refine TL.nil (Plan.e1 ((s6.trans i1)) ?_)
 refine Plan.s1 6 [7, 10, 11, 12, 13, 14, 15, 16, 17, 18] kA kA rfl ?_
 refine R.ld isAgg25 rfl rfl (.tl .hd) rfl ?_
 refine eA ?_
 refine vP 11 [7, 10, 12, 13, 14, 15, 16, 17, 18] rfl underlying31 rfl sizeOf27 ?_
 refine vP 12 [7, 10, 13, 14, 15, 16, 17, 18] rfl underlying27 rfl sizeOf24 ?_
 refine Plan.s1 7 [10, 13, 14, 15, 16, 17, 18] kA kA rfl ?_
 refine TL.call [] rfl rfl rfl (k_86 _ _ a0.2.1.2.2 (c2.mono (s6.trans i1)) bA) ?_
 intro e3 e4 e5 a5 c7
 obtain ⟨e7, rfl, b3⟩ := c7
 obtain ⟨a1, b4⟩ : ∃ x, x = a0.2.1.2.2 := ⟨_, rfl⟩
 rw [← b4] at b3
 obtain ⟨a6, a7, rfl, e8, e9⟩ := OwnS.shape b3
 have f0 : a1.length = a0.2.1.2.2.length := by rw [b4]
 refine TL.shut .hd ?_
 intro s8 g4 l7
 have l8 := OwnS.read b3 g4 l7
 refine TL.nil (Plan.e1 ((a5.trans g4)) ?_)
 refine Plan.s1 10 [13, 14, 15, 16, 17, 18] kA kA rfl ?_
 refine TL.call [] rfl rfl rfl (k_80 _ _ a0.2.2.1 (c3.mono (s6.trans (i1.trans (a5.trans g4)))) bA) ?_
 intro f1 f2 f3 a8 c8
 obtain ⟨c9, rfl, b5⟩ := c8
 obtain ⟨a4, b6⟩ : ∃ x, x = a0.2.2.1 := ⟨_, rfl⟩
 rw [← b6] at b5
 obtain ⟨b7, b8, rfl, f4, f5⟩ := OwnS.shape b5
 have f6 : a4.length = a0.2.2.1.length := by rw [b6]
 refine TL.nil (Plan.e1 (a8) ?_)
 refine Plan.s1 13 [14, 15, 16, 17, 18] kA kA rfl ?_
 refine stY (l := [sl A6 x6 p6]) (new := (c24 a0.1 [.int .i64 (a0.2.1.1), sl A6 x6 p6, sl c4 a0.2.1.2.2 c5, sl a9 a0.2.2.1 b0, sl a2 a0.2.2.2 a3])) (.tl (.tl .hd)) sizeOf24 rfl (cells1 rfl) ?_
 refine eB ?_
 refine vP 14 [15, 16, 17, 18] rfl underlying31 rfl sizeOf27 ?_
 refine vP 15 [16, 17, 18] rfl underlying27 rfl sizeOf25 ?_
 refine Plan.s1 16 [17, 18] kA kA rfl ?_
 refine stY (l := [sl a6 a1 a7]) (new := (c24 a0.1 [.int .i64 (a0.2.1.1), sl A6 x6 p6, sl a6 a1 a7, sl a9 a0.2.2.1 b0, sl a2 a0.2.2.2 a3])) (.tl (.tl .hd)) sizeOf25 rfl (cells1 rfl) ?_
 refine eB ?_
 refine vP 17 [18] rfl underlying31 rfl sizeOf28 ?_
 refine Plan.s1 18 [] kA kA rfl ?_
 refine stY (l := [sl b7 a4 b8]) (new := (c24 a0.1 [.int .i64 (a0.2.1.1), sl A6 x6 p6, sl a6 a1 a7, sl b7 a4 b8, sl a2 a0.2.2.2 a3])) (.tl (.tl .hd)) sizeOf28 rfl (cells1 rfl) ?_
 refine eB ?_
 refine Plan.done (Post.thnN ?_)
 exact ⟨(sl A6 x6 p6, x6, sl a6 a1 a7, a1, sl b7 a4 b8, a4, c9), (s6.trans (i1.trans (a5.trans (g4.trans a8)))), ⟨(Has.cons (.tl .hd) (Has.cons (.tl .hd) (Has.cons .hd Has.nil))), (o7.mono (a5.trans (g4.trans a8))), (l8.mono a8), b5, (by subst b6; subst b4; subst e6; rfl)⟩, rfl, rfl, trivial⟩
 refine R.ld isAgg25 rfl rfl (.tl .hd) rfl ?_
 refine eA ?_
 refine Plan.s1 3 [7, 10, 11, 12, 13, 14, 15, 16, 17, 18] kA kA rfl ?_
 refine TL.call [] rfl rfl rfl (k_a8 _ _ a0.2.1.2.1 d0 bA) ?_
 intro v6 H6 L6 s6 q6
 obtain ⟨c6, rfl, w6⟩ := q6
 obtain ⟨x6, e6⟩ : ∃ x, x = a0.2.1.2.1 := ⟨_, rfl⟩
 rw [← e6] at w6
 obtain ⟨A6, p6, rfl, m6, n6⟩ := OwnS.shape w6
 have t6 : x6.length = a0.2.1.2.1.length := by rw [e6]
 refine TL.shut .hd ?_
 intro HF6_23 i2 o8
 have o9 := OwnS.read w6 i2 o8
 refine TL.nil (Plan.e1 ((s6.trans i2)) ?_)
 refine vP 11 [7, 10, 12, 13, 14, 15, 16, 17, 18] rfl underlying31 rfl sizeOf27 ?_
 refine vP 12 [7, 10, 13, 14, 15, 16, 17, 18] rfl underlying27 rfl sizeOf24 ?_
 refine Plan.s1 7 [10, 13, 14, 15, 16, 17, 18] kA kA rfl ?_
 refine TL.call [] rfl rfl rfl (k_86 _ _ a0.2.1.2.2 (c2.mono (s6.trans i2)) bA) ?_
 intro e3 e4 e5 a5 c7
 obtain ⟨e7, rfl, b3⟩ := c7
 obtain ⟨a1, b4⟩ : ∃ x, x = a0.2.1.2.2 := ⟨_, rfl⟩
 rw [← b4] at b3
 obtain ⟨a6, a7, rfl, e8, e9⟩ := OwnS.shape b3
 have f0 : a1.length = a0.2.1.2.2.length := by rw [b4]
 refine TL.shut .hd ?_
 intro s9 g5 l9
 have m0 := OwnS.read b3 g5 l9
 refine TL.nil (Plan.e1 ((a5.trans g5)) ?_)
 refine Plan.s1 10 [13, 14, 15, 16, 17, 18] kA kA rfl ?_
 refine TL.call [] rfl rfl rfl (k_80 _ _ a0.2.2.1 (c3.mono (s6.trans (i2.trans (a5.trans g5)))) bA) ?_
 intro f1 f2 f3 a8 c8
 obtain ⟨c9, rfl, b5⟩ := c8
 obtain ⟨a4, b6⟩ : ∃ x, x = a0.2.2.1 := ⟨_, rfl⟩
 rw [← b6] at b5
 obtain ⟨b7, b8, rfl, f4, f5⟩ := OwnS.shape b5
 have f6 : a4.length = a0.2.2.1.length := by rw [b6]
 refine TL.nil (Plan.e1 (a8) ?_)
 refine Plan.s1 13 [14, 15, 16, 17, 18] kA kA rfl ?_
 refine stY (l := [sl A6 x6 p6]) (new := (c24 a0.1 [.int .i64 (a0.2.1.1), sl A6 x6 p6, sl c4 a0.2.1.2.2 c5, sl a9 a0.2.2.1 b0, sl a2 a0.2.2.2 a3])) (.tl (.tl .hd)) sizeOf24 rfl (cells1 rfl) ?_
 refine eB ?_
 refine vP 14 [15, 16, 17, 18] rfl underlying31 rfl sizeOf27 ?_
 refine vP 15 [16, 17, 18] rfl underlying27 rfl sizeOf25 ?_
 refine Plan.s1 16 [17, 18] kA kA rfl ?_
 refine stY (l := [sl a6 a1 a7]) (new := (c24 a0.1 [.int .i64 (a0.2.1.1), sl A6 x6 p6, sl a6 a1 a7, sl a9 a0.2.2.1 b0, sl a2 a0.2.2.2 a3])) (.tl (.tl .hd)) sizeOf25 rfl (cells1 rfl) ?_
 refine eB ?_
 refine vP 17 [18] rfl underlying31 rfl sizeOf28 ?_
 refine Plan.s1 18 [] kA kA rfl ?_
 refine stY (l := [sl b7 a4 b8]) (new := (c24 a0.1 [.int .i64 (a0.2.1.1), sl A6 x6 p6, sl a6 a1 a7, sl b7 a4 b8, sl a2 a0.2.2.2 a3])) (.tl (.tl .hd)) sizeOf28 rfl (cells1 rfl) ?_
 refine eB ?_
 refine Plan.done (Post.thnN ?_)
 exact ⟨(sl A6 x6 p6, x6, sl a6 a1 a7, a1, sl b7 a4 b8, a4, c9), (s6.trans (i2.trans (a5.trans (g5.trans a8)))), ⟨(Has.cons (.tl .hd) (Has.cons (.tl .hd) (Has.cons .hd Has.nil))), (o9.mono (a5.trans (g5.trans a8))), (m0.mono a8), b5, (by subst b6; subst b4; subst e6; rfl)⟩, rfl, rfl, trivial⟩
 refine R.ld isAgg25 rfl rfl (.tl .hd) rfl ?_
 refine eA ?_
 refine Plan.s1 2 [3, 7, 10, 11, 12, 13, 14, 15, 16, 17, 18] kA kA rfl ?_
 refine R.ld isAgg24 rfl rfl (.tl .hd) rfl ?_
 refine eA ?_
 refine Plan.s1 3 [7, 10, 11, 12, 13, 14, 15, 16, 17, 18] kA kA rfl ?_
 refine TL.call [] rfl rfl rfl (k_a8 _ _ a0.2.1.2.1 d0 bA) ?_
 intro v6 H6 L6 s6 q6
 obtain ⟨c6, rfl, w6⟩ := q6
 obtain ⟨x6, e6⟩ : ∃ x, x = a0.2.1.2.1 := ⟨_, rfl⟩
 rw [← e6] at w6
 obtain ⟨A6, p6, rfl, m6, n6⟩ := OwnS.shape w6
 have t6 : x6.length = a0.2.1.2.1.length := by rw [e6]
 refine TL.shut .hd ?_
 intro HF6_25 i3 p0
 have p1 := OwnS.read w6 i3 p0
 refine TL.nil (Plan.e1 ((s6.trans i3)) ?_)
 refine vP 11 [7, 10, 12, 13, 14, 15, 16, 17, 18] rfl underlying31 rfl sizeOf27 ?_
 refine vP 12 [7, 10, 13, 14, 15, 16, 17, 18] rfl underlying27 rfl sizeOf24 ?_
 refine Plan.s1 7 [10, 13, 14, 15, 16, 17, 18] kA kA rfl ?_
 refine TL.call [] rfl rfl rfl (k_86 _ _ a0.2.1.2.2 (c2.mono (s6.trans i3)) bA) ?_
 intro e3 e4 e5 a5 c7
 obtain ⟨e7, rfl, b3⟩ := c7
 obtain ⟨a1, b4⟩ : ∃ x, x = a0.2.1.2.2 := ⟨_, rfl⟩
 rw [← b4] at b3
 obtain ⟨a6, a7, rfl, e8, e9⟩ := OwnS.shape b3
 have f0 : a1.length = a0.2.1.2.2.length := by rw [b4]
 refine TL.shut .hd ?_
 intro t0 g6 m1
 have m2 := OwnS.read b3 g6 m1
 refine TL.nil (Plan.e1 ((a5.trans g6)) ?_)
 refine Plan.s1 10 [13, 14, 15, 16, 17, 18] kA kA rfl ?_
 refine TL.call [] rfl rfl rfl (k_80 _ _ a0.2.2.1 (c3.mono (s6.trans (i3.trans (a5.trans g6)))) bA) ?_
 intro f1 f2 f3 a8 c8
 obtain ⟨c9, rfl, b5⟩ := c8
 obtain ⟨a4, b6⟩ : ∃ x, x = a0.2.2.1 := ⟨_, rfl⟩
 rw [← b6] at b5
 obtain ⟨b7, b8, rfl, f4, f5⟩ := OwnS.shape b5
 have f6 : a4.length = a0.2.2.1.length := by rw [b6]
 refine TL.nil (Plan.e1 (a8) ?_)
 refine Plan.s1 13 [14, 15, 16, 17, 18] kA kA rfl ?_
 refine stY (l := [sl A6 x6 p6]) (new := (c24 a0.1 [.int .i64 (a0.2.1.1), sl A6 x6 p6, sl c4 a0.2.1.2.2 c5, sl a9 a0.2.2.1 b0, sl a2 a0.2.2.2 a3])) (.tl (.tl .hd)) sizeOf24 rfl (cells1 rfl) ?_
 refine eB ?_
 refine vP 14 [15, 16, 17, 18] rfl underlying31 rfl sizeOf27 ?_
 refine vP 15 [16, 17, 18] rfl underlying27 rfl sizeOf25 ?_
 refine Plan.s1 16 [17, 18] kA kA rfl ?_
 refine stY (l := [sl a6 a1 a7]) (new := (c24 a0.1 [.int .i64 (a0.2.1.1), sl A6 x6 p6, sl a6 a1 a7, sl a9 a0.2.2.1 b0, sl a2 a0.2.2.2 a3])) (.tl (.tl .hd)) sizeOf25 rfl (cells1 rfl) ?_
 refine eB ?_
 refine vP 17 [18] rfl underlying31 rfl sizeOf28 ?_
 refine Plan.s1 18 [] kA kA rfl ?_
 refine stY (l := [sl b7 a4 b8]) (new := (c24 a0.1 [.int .i64 (a0.2.1.1), sl A6 x6 p6, sl a6 a1 a7, sl b7 a4 b8, sl a2 a0.2.2.2 a3])) (.tl (.tl .hd)) sizeOf28 rfl (cells1 rfl) ?_
 refine eB ?_
 refine Plan.done (Post.thnN ?_)
 exact ⟨(sl A6 x6 p6, x6, sl a6 a1 a7, a1, sl b7 a4 b8, a4, c9), (s6.trans (i3.trans (a5.trans (g6.trans a8)))), ⟨(Has.cons (.tl .hd) (Has.cons (.tl .hd) (Has.cons .hd Has.nil))), (p1.mono (a5.trans (g6.trans a8))), (m2.mono a8), b5, (by subst b6; subst b4; subst e6; rfl)⟩, rfl, rfl, trivial⟩
 intro ⟨g7, b9, g8, c0, g9, c1, d9⟩ σ_c1 H_c1 L_c1 ds_c1 s_c1 p8
 obtain ⟨hLc1, i5, i6, j0, hTc1⟩ := p8
 obtain ⟨d1, d2, rfl, q7, q3, i5⟩ := RdS.shape i5
 obtain ⟨d3, d4, rfl, q8, q4, i6⟩ := RdS.shape i6
 obtain ⟨d5, d6, rfl, q9, q5⟩ := OwnS.shape j0
 refine T.has hLc1 ?_
 refine sR (fA underlying31 rfl sizeOf29 ?_)
 refine R.ld isAgg29 rfl rfl (.tl .hd) rfl ?_
 obtain ⟨i4, p2⟩ : ∃ r, r = (k_5d a0.2.2.2 ((fun z0 => k_66 z0))) := ⟨_, rfl⟩
 refine TL.call [] rfl rfl rfl (state_each_Row_v _ _ a0.2.2.2 (i9.mono s_c1) _ (fun z0 => k_66 z0) (fun H2 h2 z0 p9 q0 q1 q2 hpre => state_ownRow_c H2 z0 p9 q0 q1 q2 (by first | exact hS.row _ hpre | exact (hrm _ hpre).1 | exact (hrm _ hpre).2)) rfl oA) ?_
 intro v21 H21 L21 s21 q21
 rw [← p2] at q21
 obtain ⟨t1, i8, rfl, rfl, j1⟩ := q21
 obtain ⟨d7, d8, rfl, t2, t3⟩ := OwnD.shape j1
 refine fA underlying31 rfl sizeOf29 ?_
 refine stY (l := [sl d7 i4 d8]) (new := (c24 a0.1 [.int .i64 (a0.2.1.1), sl d1 b9 d2, sl d3 c0 d4, sl d5 c1 d6, sl d7 i4 d8])) (.tl (.tl .hd)) sizeOf29 rfl (cells1 rfl) ?_
 refine nN (sR (R.ldX (cs := (c24 a0.1 [.int .i64 (a0.2.1.1), .slice d1 b9.length d2, .slice d3 c0.length d4, .slice d5 c1.length d6, .slice d7 i4.length d8])) (l := (c24 a0.1 [.int .i64 (a0.2.1.1), .slice d1 b9.length d2, .slice d3 c0.length d4, .slice d5 c1.length d6, .slice d7 i4.length d8])) isAgg31 sizeOf31 rfl rfl (.tl (.tl .hd)) rfl rfl ?_))
 refine stY (l := (c24 a0.1 [.int .i64 (a0.2.1.1), sl d1 b9 d2, sl d3 c0 d4, sl d5 c1 d6, sl d7 i4 d8])) (new := (c24 a0.1 [.int .i64 (a0.2.1.1), sl d1 b9 d2, sl d3 c0 d4, sl d5 c1 d6, sl d7 i4 d8])) (.tl .hd) sizeOf31 rfl rfl ?_
 refine nN (T.has (Has.cons (.tl (.tl (.tl .hd))) (Has.cons .hd (Has.cons .hd Has.nil))) ?_)
 refine T.ret ?_
 have hM : k_2d a0 = ((a0.1, (a0.2.1.1, b9, c0), c1, i4) : ZS) := by subst p2; rw [k_2d, hTc1, LR.seq_go, LR.seq_go]
 exact finR1 (v := .agg (c24 a0.1 [.int .i64 (a0.2.1.1), sl d1 b9 d2, sl d3 c0 d4, sl d5 c1 d6, sl d7 i4 d8]).toArray) [d9, i8] rfl (.cellA (cs := (c24 a0.1 [.int .i64 (a0.2.1.1), sl d1 b9 d2, sl d3 c0 d4, sl d5 c1 d6, sl d7 i4 d8])) (l := (c24 a0.1 [.int .i64 (a0.2.1.1), sl d1 b9 d2, sl d3 c0 d4, sl d5 c1 d6, sl d7 i4 d8])) isAgg31 sizeOf31 rfl (.tl (.tl .hd)) rfl rfl) (List.sublist_append_left ([d9, i8] : Own) _) ⟨sl d1 b9 d2, sl d3 c0 d4, sl d5 c1 d6, sl d7 i4 d8, d9, i8, by first | rw [hM] | rfl, rfl, by rw [hM]; exact (i5.mono s21), by rw [hM]; exact (i6.mono s21), by rw [hM]; exact (OwnS.mono j0 s21), by rw [hM]; exact j1⟩
end Go.SX
namespace Go.SX
open Go Go.Proofs Go.Proofs.Tryz
theorem state_ownRow_id (r : Rw) : k_66 r = r := ownRow_id r
theorem state_ownRow_i (H : Heap) (a0 : ZR) (va0_1 : Value) (ha0_1 : RdS (intE .u64) H va0_1 a0.2.1) (va0_2 : Value) (ha0_2 : RdS (slE (intE .u64)) H va0_2 a0.2.2) (hR : RowS a0) : Fc Tryz.prog (fnv 58) [.agg #[.int .i64 a0.1, va0_1, va0_2]] H [] (fun v' H' L' => ∃ u0_1 u0_2 c0_1 c0_2, v' = .agg #[.int .i64 a0.1, u0_1, u0_2] ∧ L' = [c0_1, c0_2] ∧ OwnS (intE .u64) 39 H' u0_1 a0.2.1 c0_1 ∧ OwnS (slE (intE .u64)) 64 H' u0_2 a0.2.2 c0_2) := by
  have h := state_ownRow_c H a0 va0_1 ha0_1 va0_2 ha0_2 hR
  rw [state_ownRow_id] at h
  exact h
theorem state_own_id (a : Sta) : k_2d a = a := by
  unfold k_2d k_5d
  simp only [LR.seq_go]
  rw [each_R_l1, List.nil_append]
theorem state_own_i (H : Heap) (a0 : ZS) (va0_25 : Value) (ha0_25 : RdS slotE H va0_25 a0.2.1.2.1) (va0_26 : Value) (ha0_26 : RdS (intE .i64) H va0_26 a0.2.1.2.2) (va0_27 : Value) (ha0_27 : RdS relationE H va0_27 a0.2.2.1) (va0_28 : Value) (ha0_28 : RdS rowE H va0_28 a0.2.2.2) (hS : StS a0) : Fc Tryz.prog (fnv 94) [.agg (c24 a0.1 [.int .i64 a0.2.1.1, va0_25, va0_26, va0_27, va0_28]).toArray] H [] (fun v' H' L' => ∃ u0_25 u0_26 u0_27 u0_28 c0_27 c0_28, v' = .agg (c24 a0.1 [.int .i64 a0.2.1.1, u0_25, u0_26, u0_27, u0_28]).toArray ∧ L' = [c0_27, c0_28] ∧ RdS slotE H' u0_25 a0.2.1.2.1 ∧ RdS (intE .i64) H' u0_26 a0.2.1.2.2 ∧ OwnS relationE 55 H' u0_27 a0.2.2.1 c0_27 ∧ OwnS rowE 47 H' u0_28 a0.2.2.2 c0_28) := by
  have h := state_own_v H a0 va0_25 ha0_25 va0_26 ha0_26 va0_27 ha0_27 va0_28 ha0_28 hS
  rw [state_own_id] at h
  refine h.part ?_
  rintro v H2 L2 ⟨u25, u26, u27, u28, c27, c28, rfl, rfl, w25, w26, w27, w28⟩
  obtain ⟨c0, cd, rfl, hp⟩ := w28.part
  refine ⟨cd, [c27, c0], ?_, fun H3 hl hq => ⟨u25, u26, u27, u28, c27, c0, rfl, rfl, w25.mono hl, w26.mono hl, w27.mono hl, hp H3 hl hq⟩⟩
  simp only [List.flatten_cons, List.flatten_nil, List.append_nil]
  rw [← List.append_assoc]
  exact List.perm_append_comm
end Go.SX
namespace Go.SX
open Go Go.Proofs Go.Proofs.Tryz
theorem state_own_vi (H : Heap) (a0 : ZS) (va0_25 : Value) (ha0_25 : RdS slotE H va0_25 a0.2.1.2.1) (va0_26 : Value) (ha0_26 : RdS (intE .i64) H va0_26 a0.2.1.2.2) (va0_27 : Value) (ha0_27 : RdS relationE H va0_27 a0.2.2.1) (va0_28 : Value) (ha0_28 : RdS rowE H va0_28 a0.2.2.2) (hS : StS a0) : Fc Tryz.prog (fnv 94) [.agg (c24 a0.1 [.int .i64 a0.2.1.1, va0_25, va0_26, va0_27, va0_28]).toArray] H [] (fun v' H' L' => ∃ u0_25 u0_26 u0_27 u0_28 c0_27 c0_28, v' = .agg (c24 a0.1 [.int .i64 a0.2.1.1, u0_25, u0_26, u0_27, u0_28]).toArray ∧ L' = [c0_27, c0_28] ∧ RdS slotE H' u0_25 a0.2.1.2.1 ∧ RdS (intE .i64) H' u0_26 a0.2.1.2.2 ∧ OwnS relationE 55 H' u0_27 a0.2.2.1 c0_27 ∧ OwnD rowD 47 H' u0_28 a0.2.2.2 c0_28) := by
  have h := state_own_v H a0 va0_25 ha0_25 va0_26 ha0_26 va0_27 ha0_27 va0_28 ha0_28 hS
  rw [state_own_id] at h
  exact h
end Go.SX
namespace Go.SX
open Go
theorem bsR_rng {a : List Rw} {n : Int} {f : Rw → Int → Int} (hl : a.length ≤ 2000000) : ∀ (m : Nat) (i j : Int), 0 ≤ i → i ≤ j → j ≤ (a.length : Int) → 0 ≤ (k_f a n f m (i, j)).1 ∧ (k_f a n f m (i, j)).1 ≤ (a.length : Int)
  | 0, i, j, _, _, _ => by rw [k_f]; exact ⟨Int.le_refl _, by show (0 : Int) ≤ _; omega⟩
  | m + 1, i, j, h0, h1, h2 => by
    rw [k_f]
    simp only
    by_cases c : i < j
    · have hm := midI h0 c (by omega)
      rw [if_pos c, hm]
      split
      · exact bsR_rng hl m _ j (by omega) (by omega) h2
      · exact bsR_rng hl m i _ h0 (by omega) (by omega)
    · rw [if_neg c]; exact ⟨h0, by show i ≤ _; omega⟩
theorem sfind_rng (s : Sta) (n : Int) (r : Int × Bool) (e : r = k_1b s n) (hl : s.2.2.2.length ≤ 2000000) : 0 ≤ r.1 ∧ r.1 ≤ (s.2.2.2.length : Int) ∧ (r.2 = true → r.1 < (s.2.2.2.length : Int)) := by
  subst e
  have h0 := bsR_rng (a := s.2.2.2) (n := n) (f := fun z0 z1 => k_68 z0 z1) hl (((s.2.2.2.length : Int) - 0).toNat + 1) 0 s.2.2.2.length (by omega) (by omega) (by omega)
  unfold k_1b k_20
  simp only [LR.seq]
  generalize k_f s.2.2.2 n (fun z0 z1 => k_68 z0 z1) (((s.2.2.2.length : Int) - 0).toNat + 1) (0, s.2.2.2.length) = o at *
  by_cases c : o.1 < (s.2.2.2.length : Int)
  · rw [if_pos c]; exact ⟨h0.1, h0.2, fun _ => c⟩
  · rw [if_neg c]; exact ⟨h0.1, h0.2, fun h => by cases h⟩
end Go.SX
namespace Go.SX
open Go
structure RowOk (s : Sta) (r : Rw) : Prop where
  t : k_52 r.2.1 = 0
  l : r.2.2.length = r.2.1.length
  b : r.1 = 1 ∨ r.1 = 2 → r.2.1 = []
  w : ∀ k id, r.2.1[k]? = some id → (k_28 s.2.2.1 s.1 id).2 = 0 ∧ ((r.2.2.getD k []).length : Int) = (k_28 s.2.2.1 s.1 id).1
  p : ∀ id ∈ r.2.1, kindG id = 3 → (k_1b s (k_1 id).2).2 = true ∧ k_2e s.2.2.1 r.2.1 id = []
theorem rowW_l3 (s : Sta) (r : Rw) : ∀ (l : List Int) (k : Nat), l = r.2.1.drop k →
    (k_4e s r l k () = .go () ∧ (∀ j id, k ≤ j → r.2.1[j]? = some id → ((k_28 s.2.2.1 s.1 id).2 = 0 ∧ ((r.2.2.getD j []).length : Int) = (k_28 s.2.2.1 s.1 id).1) ∧ (kindG id = 3 → (k_1b s (k_1 id).2).2 = true ∧ k_2e s.2.2.1 r.2.1 id = []))) ∨
    (k_4e s r l k () = .ret false ∧ ¬ (∀ j id, k ≤ j → r.2.1[j]? = some id → ((k_28 s.2.2.1 s.1 id).2 = 0 ∧ ((r.2.2.getD j []).length : Int) = (k_28 s.2.2.1 s.1 id).1) ∧ (kindG id = 3 → (k_1b s (k_1 id).2).2 = true ∧ k_2e s.2.2.1 r.2.1 id = [])))
  | [], k, h => by
    have hk : r.2.1.length ≤ k := by
      have := congrArg List.length h; simp at this; omega
    refine .inl ⟨rfl, fun j id hj hid => ?_⟩
    have := (List.getElem?_eq_some_iff.1 hid).1; omega
  | y :: ys, k, h => by
    have hy : r.2.1[k]? = some y := by
      have := congrArg (fun q => q[0]?) h
      simp only [List.getElem?_cons_zero, List.getElem?_drop, Nat.add_zero] at this
      exact this.symm
    have hys : ys = r.2.1.drop (k + 1) := by
      have := congrArg List.tail h
      simpa using this
    have ih := rowW_l3 s r ys (k + 1) hys
    rw [k_4e]
    simp only [LR.seq_go, need_eq]
    by_cases w1 : (k_28 s.2.2.1 s.1 y).2 = 0
    · rw [if_pos w1]
      by_cases w2 : ((r.2.2.getD k []).length : Int) = (k_28 s.2.2.1 s.1 y).1
      · rw [decide_eq_true w2, if_pos rfl, LR.on_go]
        by_cases k3 : kindG y = 3
        · rw [if_pos (by omega)]
          cases hf : (k_1b s (k_1 y).2).2 with
          | false =>
            rw [if_neg Bool.false_ne_true]
            refine .inr ⟨rfl, fun hall => ?_⟩
            have := ((hall k y (Nat.le_refl _) hy).2 k3).1
            rw [hf] at this; cases this
          | true =>
            rw [if_pos rfl]
            by_cases hr : k_2e s.2.2.1 r.2.1 y = []
            · rw [hr, decide_eq_true (by simp), if_pos rfl]
              rcases ih with ⟨h1, h2⟩ | ⟨h1, h2⟩
              · refine .inl ⟨h1, fun j id hj hid => ?_⟩
                by_cases e : j = k
                · subst e; rw [hy] at hid; injection hid with hid; subst hid; exact ⟨⟨w1, w2⟩, fun _ => ⟨hf, hr⟩⟩
                · exact h2 j id (by omega) hid
              · exact .inr ⟨h1, fun hall => h2 (fun j id hj hid => hall j id (by omega) hid)⟩
            · have : ¬ ((k_2e s.2.2.1 r.2.1 y).length : Int) = 0 := by
                intro e; exact hr (List.eq_nil_of_length_eq_zero (by omega))
              rw [decide_eq_false this, if_neg Bool.false_ne_true]
              exact .inr ⟨rfl, fun hall => hr (((hall k y (Nat.le_refl _) hy).2 k3).2)⟩
        · rw [if_neg (by omega)]
          rcases ih with ⟨h1, h2⟩ | ⟨h1, h2⟩
          · refine .inl ⟨h1, fun j id hj hid => ?_⟩
            by_cases e : j = k
            · subst e; rw [hy] at hid; injection hid with hid; subst hid; exact ⟨⟨w1, w2⟩, fun h3 => absurd h3 k3⟩
            · exact h2 j id (by omega) hid
          · exact .inr ⟨h1, fun hall => h2 (fun j id hj hid => hall j id (by omega) hid)⟩
      · rw [decide_eq_false w2, if_neg Bool.false_ne_true, LR.on_ret]
        exact .inr ⟨rfl, fun hall => w2 ((hall k y (Nat.le_refl _) hy).1.2)⟩
    · rw [if_neg w1, LR.on_ret]
      exact .inr ⟨rfl, fun hall => w1 ((hall k y (Nat.le_refl _) hy).1.1)⟩
theorem row_iff (s : Sta) (r : Rw) : k_48 s r = true ↔ RowOk s r := by
  unfold k_48
  simp only [need_eq]
  by_cases c1 : k_52 r.2.1 = 0
  · rw [if_pos c1]
    by_cases c2 : (r.2.2.length : Int) = (r.2.1.length : Int)
    · rw [decide_eq_true c2, if_pos rfl, LR.on_go]
      by_cases c3 : r.1 = 1 ∨ r.1 = 2 → r.2.1 = []
      · have hgo : (if r.1 ≠ 1 then (if r.1 ≠ 2 then (.go ()) else (if (decide ((r.2.1.length : Int) = 0)) = true then (.go ()) else (.ret false))) else (if (decide ((r.2.1.length : Int) = 0)) = true then (.go ()) else (.ret false)) : LR (Bool) (Unit)) = .go () := by
          by_cases e1 : r.1 = 1
          · rw [if_neg (fun h => h e1), c3 (.inl e1)]; rfl
          · rw [if_pos e1]
            by_cases e2 : r.1 = 2
            · rw [if_neg (fun h => h e2), c3 (.inr e2)]; rfl
            · rw [if_pos e2]
        rw [hgo, LR.on_go]
        rcases rowW_l3 s r r.2.1 0 (by rw [List.drop_zero]) with ⟨h1, h2⟩ | ⟨h1, h2⟩
        · rw [h1, LR.on_go]
          refine ⟨fun _ => ⟨c1, by omega, c3, fun k id hid => (h2 k id (Nat.zero_le _) hid).1, fun id hid h3 => ?_⟩, fun _ => rfl⟩
          obtain ⟨k, hk⟩ := List.mem_iff_getElem?.1 hid
          exact (h2 k id (Nat.zero_le _) hk).2 h3
        · rw [h1, LR.on_ret]
          refine ⟨fun h => (by cases h), fun h => absurd (fun j id _ hid => ⟨h.w j id hid, fun h3 => h.p id (List.mem_of_getElem? hid) h3⟩) h2⟩
      · have hgo : (if r.1 ≠ 1 then (if r.1 ≠ 2 then (.go ()) else (if (decide ((r.2.1.length : Int) = 0)) = true then (.go ()) else (.ret false))) else (if (decide ((r.2.1.length : Int) = 0)) = true then (.go ()) else (.ret false)) : LR (Bool) (Unit)) = .ret false := by
          have hne : ¬ ((r.2.1.length : Int) = 0) := fun e => c3 (fun _ => List.eq_nil_of_length_eq_zero (by omega))
          by_cases e1 : r.1 = 1
          · rw [if_neg (fun h => h e1), decide_eq_false hne]; rfl
          · by_cases e2 : r.1 = 2
            · rw [if_pos e1, if_neg (fun h => h e2), decide_eq_false hne]; rfl
            · exact absurd (fun h => h.elim (fun h => absurd h e1) (fun h => absurd h e2)) c3
        rw [hgo, LR.on_ret]
        exact ⟨fun h => (by cases h), fun h => absurd h.b c3⟩
    · rw [decide_eq_false c2, if_neg Bool.false_ne_true, LR.on_ret]
      exact ⟨fun h => (by cases h), fun h => absurd (by rw [h.l]) c2⟩
  · rw [if_neg c1, LR.on_ret]
    exact ⟨fun h => (by cases h), fun h => absurd h.t c1⟩
structure StOk (s : Sta) : Prop where
  wide : k_98 s.1 = 0
  al : k_27 s.2.1 = 0
  rels : k_35 s.2.2.1 = 0
  len : (k_8d s.2.1).length = s.2.2.2.length
  idx : ∀ i r, s.2.2.2[i]? = some r → r.1 = (k_1 ((k_8d s.2.1).getD i 0)).1
  row : ∀ r ∈ s.2.2.2, RowOk s r
  rel : ∀ r ∈ s.2.2.1, (k_1b s r.1).2 = true ∧ (r.2.1 = true → roundR (k_3c s r.1) = false)
theorem look_l2 (a : List Int) (L : List Rw) : ∀ (l : List Rw) (k : Nat), l = L.drop k →
    (k_78 a l k () = .go () ∧ ∀ i r, k ≤ i → L[i]? = some r → r.1 = (k_1 (a.getD i 0)).1) ∨ (k_78 a l k () = .ret false ∧ ¬ ∀ i r, k ≤ i → L[i]? = some r → r.1 = (k_1 (a.getD i 0)).1)
  | [], k, h => by
    have hk : L.length ≤ k := by
      have := congrArg List.length h; simp at this; omega
    refine .inl ⟨rfl, fun j id hj hid => ?_⟩
    have := (List.getElem?_eq_some_iff.1 hid).1; omega
  | y :: ys, k, h => by
    have hy : L[k]? = some y := by
      have := congrArg (fun q => q[0]?) h
      simp only [List.getElem?_cons_zero, List.getElem?_drop, Nat.add_zero] at this
      exact this.symm
    have hys : ys = L.drop (k + 1) := by
      have := congrArg List.tail h
      simpa using this
    have ih := look_l2 a L ys (k + 1) hys
    rw [k_78]
    simp only [LR.seq_go, need_eq]
    by_cases w1 : y.1 = (k_1 (a.getD k 0)).1
    · rw [decide_eq_true w1, if_pos rfl]
      rcases ih with ⟨h1, h2⟩ | ⟨h1, h2⟩
      · refine .inl ⟨h1, fun j id hj hid => ?_⟩
        by_cases e : j = k
        · subst e; rw [hy] at hid; injection hid with hid; subst hid; exact w1
        · exact h2 j id (by omega) hid
      · exact .inr ⟨h1, fun hall => h2 (fun j id hj hid => hall j id (by omega) hid)⟩
    · rw [decide_eq_false w1, if_neg Bool.false_ne_true]
      exact .inr ⟨rfl, fun hall => w1 (hall k y (Nat.le_refl _) hy)⟩
theorem look_l3 (s : Sta) : ∀ (l : List Rw), (k_77 s l () = .go () ∧ ∀ r ∈ l, RowOk s r) ∨ (k_77 s l () = .ret false ∧ ¬ ∀ r ∈ l, RowOk s r)
  | [] => .inl ⟨rfl, fun r h => by cases h⟩
  | y :: ys => by
    rw [k_77]
    cases hy : k_48 s y with
    | false =>
      rw [if_neg Bool.false_ne_true]
      exact .inr ⟨rfl, fun hall => by have := (row_iff s y).2 (hall y (List.mem_cons_self ..)); rw [hy] at this; cases this⟩
    | true =>
      rw [if_pos rfl]
      rcases look_l3 s ys with ⟨h1, h2⟩ | ⟨h1, h2⟩
      · exact .inl ⟨h1, fun r hr => (List.mem_cons.1 hr).elim (fun e => e ▸ (row_iff s y).1 hy) (fun h => h2 r h)⟩
      · exact .inr ⟨h1, fun hall => h2 (fun r hr => hall r (List.mem_cons_of_mem _ hr))⟩
theorem look_l4 (s : Sta) : ∀ (l : List Rl), (k_4a s l () = .go () ∧ ∀ r ∈ l, (k_1b s r.1).2 = true ∧ (r.2.1 = true → roundR (k_3c s r.1) = false)) ∨ (k_4a s l () = .ret false ∧ ¬ ∀ r ∈ l, (k_1b s r.1).2 = true ∧ (r.2.1 = true → roundR (k_3c s r.1) = false))
  | [] => .inl ⟨rfl, fun r h => by cases h⟩
  | y :: ys => by
    rw [k_4a]
    simp only [LR.seq_go, need_eq]
    have hnx : ((k_1b s y.1).2 = true ∧ (y.2.1 = true → roundR (k_3c s y.1) = false)) → ((k_4a s ys () = .go () ∧ ∀ r ∈ y :: ys, (k_1b s r.1).2 = true ∧ (r.2.1 = true → roundR (k_3c s r.1) = false)) ∨ (k_4a s ys () = .ret false ∧ ¬ ∀ r ∈ y :: ys, (k_1b s r.1).2 = true ∧ (r.2.1 = true → roundR (k_3c s r.1) = false))) := by
      intro hy
      rcases look_l4 s ys with ⟨h1, h2⟩ | ⟨h1, h2⟩
      · exact .inl ⟨h1, fun r hr => (List.mem_cons.1 hr).elim (fun e => e ▸ hy) (fun h => h2 r h)⟩
      · exact .inr ⟨h1, fun hall => h2 (fun r hr => hall r (List.mem_cons_of_mem _ hr))⟩
    cases hf : (k_1b s y.1).2 with
    | false =>
      rw [if_neg Bool.false_ne_true]
      exact .inr ⟨rfl, fun hall => by have := (hall y (List.mem_cons_self ..)).1; rw [hf] at this; cases this⟩
    | true =>
      rw [if_pos rfl]
      cases ha : y.2.1 with
      | false =>
        rw [if_pos (by rfl)]
        exact hnx ⟨hf, fun h => by rw [ha] at h; cases h⟩
      | true =>
        rw [if_neg (by decide)]
        cases hr : roundR (k_3c s y.1) with
        | true =>
          rw [if_neg (by decide)]
          exact .inr ⟨rfl, fun hall => by have := (hall y (List.mem_cons_self ..)).2 ha; rw [hr] at this; cases this⟩
        | false =>
          rw [if_pos (by decide)]
          exact hnx ⟨hf, fun _ => hr⟩
theorem look_iff (s : Sta) : k_3b s = true ↔ StOk s := by
  unfold k_3b
  simp only [need_eq]
  by_cases c1 : k_98 s.1 = 0
  · rw [if_pos c1]
    by_cases c2 : k_27 s.2.1 = 0
    · rw [if_pos c2]
      by_cases c3 : k_35 s.2.2.1 = 0
      · rw [decide_eq_true c3, if_pos rfl, LR.on_go, LR.seq_go]
        by_cases c4 : ((k_8d s.2.1).length : Int) = (s.2.2.2.length : Int)
        · rw [decide_eq_true c4, if_pos rfl]
          rcases look_l2 (k_8d s.2.1) s.2.2.2 s.2.2.2 0 (by rw [List.drop_zero]) with ⟨h1, h2⟩ | ⟨h1, h2⟩
          · rw [h1, LR.on_go]
            rcases look_l3 s s.2.2.2 with ⟨h3, h4⟩ | ⟨h3, h4⟩
            · rw [h3, LR.on_go]
              rcases look_l4 s s.2.2.1 with ⟨h5, h6⟩ | ⟨h5, h6⟩
              · rw [h5, LR.on_go]
                exact ⟨fun _ => ⟨c1, c2, c3, by omega, fun i r hi => h2 i r (Nat.zero_le _) hi, h4, h6⟩, fun _ => rfl⟩
              · rw [h5, LR.on_ret]
                exact ⟨fun h => (by cases h), fun h => absurd h.rel h6⟩
            · rw [h3, LR.on_ret]
              exact ⟨fun h => (by cases h), fun h => absurd h.row h4⟩
          · rw [h1, LR.on_ret]
            exact ⟨fun h => (by cases h), fun h => absurd (fun i r _ hi => h.idx i r hi) h2⟩
        · rw [decide_eq_false c4, if_neg Bool.false_ne_true]
          exact ⟨fun h => (by cases h), fun h => absurd (by rw [h.len]) c4⟩
      · rw [decide_eq_false c3, if_neg Bool.false_ne_true, LR.on_ret]
        exact ⟨fun h => (by cases h), fun h => absurd h.rels c3⟩
    · rw [if_neg c2, LR.on_ret]
      exact ⟨fun h => (by cases h), fun h => absurd h.al c2⟩
  · rw [if_neg c1, LR.on_ret]
    exact ⟨fun h => (by cases h), fun h => absurd h.wide c1⟩
theorem scheck_iff (s : Sta) : (k_15 s = 0 ↔ StOk s) ∧ (k_15 s = 0 ∨ k_15 s = 290) := by
  unfold k_15
  cases h : k_3b s with
  | true => exact ⟨⟨fun _ => (look_iff s).1 h, fun _ => by rw [if_pos rfl]⟩, .inl (by rw [if_pos rfl])⟩
  | false =>
    refine ⟨⟨fun e => (by rw [if_neg Bool.false_ne_true] at e; cases e), fun e => ?_⟩, .inr (by rw [if_neg Bool.false_ne_true])⟩
    have := (look_iff s).2 e
    rw [h] at this; cases this
end Go.SX
