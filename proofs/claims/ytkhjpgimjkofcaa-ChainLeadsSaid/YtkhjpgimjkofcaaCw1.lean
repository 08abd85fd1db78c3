/- chain: steps, waves. -/
import Derived.Test.YtkhjpgimjkofcaaCh2
import Derived.Test.YtkhjpgimjkofcaaWn
import Derived.Test.YtkhjpgimjkofcaaSrt
set_option linter.unusedVariables false
set_option linter.unusedSimpArgs false
namespace Go.SX
open Go Go.Proofs

set_option maxHeartbeats 1600000 in
theorem steps1_c (H : Heap) (b5 b8 : Nat) (es : Array MapEntry) (ck : Nat) (m : MapL) (f : Int → List Int) (x : Int) (h5 : H b5 = some (.cells #[.map (some b8)] 97)) (hm : H b8 = some (.map es ck)) (hi : MapIs .i64 es m) (hrow : ∀ k, RdS (intE .i64) H ((mget m k).getD (.slice none 0 0)) (f k)) : Fp Try.prog (.func (.func 87) #[] ([.pointer (some ⟨b5, 0, none⟩)] : List Value).toArray) [.int .i64 x] H (fun v' H' => RdS (intE .i64) H' v' (f x)) := by
  refine Fc.of_body (N := 7) Try.func87 rfl (by kernel_rfl) rfl rfl ?_
  intro w0
  refine T.seq ?_
  refine T.region ?_
  refine R.asE rfl (by conv => lhs; whnf) ?_
  refine TL.nil (Post.thnN ?_)
  refine T.seq ?_
  refine T.region ?_
  refine R.ldH Try.isAgg97 rfl rfl (h5) rfl ?_
  refine R.mvE rfl (by conv => lhs; whnf) ?_
  refine R.lkuH Try.underlying97 Try.underlying3 Try.zeroValue23 rfl rfl rfl hm hi ?_
  refine R.asE rfl (by conv => lhs; whnf) ?_
  refine TL.nil (Post.thnN ?_)
  refine T.ret ?_
  exact fin1 rfl rfl ⟨rfl, hrow x⟩


set_option maxHeartbeats 1600000 in
theorem steps_c (H : Heap) (v : Value) (xs : List Lk) (b : Bool) (hr : RdS pairE H v xs) (hl : xs.length ≤ 1000) : Fp Try.prog (fnv 69) [v, .bool b] H (fun v' H' => v'.cells = #[v'] ∧ StepF Try.prog v' (tbL b xs) H') := by
  refine Fc.of_body (N := 37) Try.func69 rfl (by kernel_rfl) rfl rfl ?_
  intro w0
  obtain ⟨A, c, rfl, hc1, hc2, hr⟩ := hr.shape
  refine T.seq ?_
  refine T.region ?_
  refine R.asE rfl (by conv => lhs; whnf) ?_
  refine TL.nil (Post.thnN ?_)
  refine T.seq ?_
  refine T.region ?_
  refine R.mkm rfl ?_
  intro b8
  refine R.alloc Try.zeroValue97 rfl ?_
  intro b5
  refine R.st Try.sizeOf97 rfl rfl (by conv => lhs; whnf) rfl (by first | exact .hd | exact .tl .hd | exact .tl (.tl .hd) | exact .tl (.tl (.tl .hd)) | exact .tl (.tl (.tl (.tl .hd))) | exact .tl (.tl (.tl (.tl (.tl .hd)))) | exact .tl (.tl (.tl (.tl (.tl (.tl .hd))))) | exact .tl (.tl (.tl (.tl (.tl (.tl (.tl .hd)))))) | exact .tl (.tl (.tl (.tl (.tl (.tl (.tl (.tl .hd))))))) | exact .tl (.tl (.tl (.tl (.tl (.tl (.tl (.tl (.tl .hd))))))))) ?_
  refine TL.nil (Post.thnN ?_)
  refine T.seq ?_
  refine T.seq ?_
  refine T.shut .hd ?_
  intro H5 s5 q5
  have h5 : H5 b5 = some (.cells #[.map (some b8)] 97) := shut1 q5
  refine T.region ?_
  refine R.mvE rfl (by conv => lhs; whnf) ?_
  refine R.callv rfl rfl rfl (ccheck_c _ _ _ (hr.mono s5)) ?_
  refine R.eql rfl rfl rfl ?_
  refine TL.nil (Post.thnN ?_)
  refine T.condD rfl (fun c11 => ?_) (fun c11 => ?_)
  · have hcb : chainB xs = true := by
      cases h : chainB xs with
      | true => rfl
      | false => rw [h] at c11; exact absurd c11 (by decide)
    refine T.seq ?_
    refine T.region ?_
    refine R.mvE rfl (by conv => lhs; whnf) ?_
    refine R.len Try.underlying22 rfl rfl ?_
    refine R.mvE rfl (by conv => lhs; whnf) ?_
    refine TL.nil (Post.thnN ?_)
    refine T.block ?_
    refine T.loop (ι := Nat × MapL × Own × Array MapEntry × Nat) (fun ⟨k, m, rows, es, ck⟩ H' L' ds' => k ≤ xs.length ∧ ds' = [] ∧ L' = [(b8, .map es ck)] :: rows ∧ MapIs .i64 es m ∧ F2 (intE .i64) 3 H' (tosB b xs k) m rows ∧ (m.map Prod.fst).Nodup ∧ (∀ j, j ∉ m.map Prod.fst → tosB b xs k j = [])) (fun ⟨k, m, rows, es, ck⟩ => [(1, .bool b), (5, .pointer (some ⟨b5, 0, none⟩)), (12, .slice A xs.length c), (13, .int .i64 xs.length), (14, .int .i64 k)]) (fun ⟨k, m, rows, es, ck⟩ => xs.length - k) ((0, [], [], #[], 0)) ?_ ?_ ?_
    · exact ⟨Nat.zero_le _, rfl, rfl, mapIs_nil _, trivial, List.nodup_nil, fun j _ => tosB_zero b xs j⟩
    · exact ⟨rfl, rfl, rfl, rfl, rfl, trivial⟩
    · intro ⟨k, m, rows, es, ck⟩ σ0 H_0 L_0 ds_0 s_0 hI_0
      obtain ⟨hk, rfl, rfl, hm, hf, hnd, hno⟩ := hI_0
      refine T.seq ?_
      refine T.region ?_
      refine R.lss rfl rfl rfl ?_
      refine TL.nil (Post.thnN ?_)
      refine T.seq ?_
      refine T.condD rfl (fun c15 => ?_) (fun c15 => ?_)
      · have hlt : k < xs.length := by omega
        obtain ⟨y, hy⟩ := getk hlt
        refine T.skip (Post.thnN ?_)
        refine T.seq ?_
        refine T.block ?_
        refine T.seq ?_
        refine T.region ?_
        obtain ⟨b16, o16, i16, e16⟩ := ((hr.mono s5).mono s_0).elem (hy)
        refine R.ixp Try.underlying22 Try.sizeOf37 rfl rfl rfl (by omega) i16 ?_
        refine R.ldP Try.isAgg37 Try.sizeOf37 rfl rfl (e16) ?_
        refine R.alloc Try.zeroValue37 rfl ?_
        intro b7
        refine R.stA (old := [.int .i64 0, .int .i64 0]) Try.sizeOf37 rfl rfl rfl rfl rfl (by intro v hv; simp at hv; rcases hv with rfl | rfl <;> rfl) .hd ?_
        refine TL.nil (Post.thnN ?_)
        refine T.cut (ι := Unit) (fun _ H' L' ds' => L' = [(b7, .cells #[.int .i64 (sw b y).1, .int .i64 (sw b y).2] 37)] :: [(b8, .map es ck)] :: rows ∧ ds' = []) (fun _ => [(1, .bool b), (5, .pointer (some ⟨b5, 0, none⟩)), (7, .pointer (some ⟨b7, 0, none⟩)), (12, .slice A xs.length c), (13, .int .i64 xs.length), (14, .int .i64 k)]) ?_ ?_
        · refine T.seq ?_
          refine T.region ?_
          refine R.mvE rfl (by conv => lhs; whnf) ?_
          refine TL.nil (Post.thnN ?_)
          refine T.cond rfl (fun c18 => ?_) (fun c18 => ?_)
          · refine T.region ?_
            refine R.fldA Try.underlying37 rfl Try.sizeOf3 (by decide) rfl rfl ?_
            refine R.ld Try.isAgg3 rfl rfl (by repeat (first | exact .hd | refine .tl ?_)) rfl ?_
            refine R.fldA Try.underlying37 rfl Try.sizeOf3 (by decide) rfl rfl ?_
            refine R.ld Try.isAgg3 rfl rfl (by repeat (first | exact .hd | refine .tl ?_)) rfl ?_
            refine R.bld (cs := [.int .i64 y.2, .int .i64 y.1]) rfl (fun _ => by kernel_rfl) ?_
            refine R.stA (old := [.int .i64 y.1, .int .i64 y.2]) Try.sizeOf37 rfl rfl rfl rfl rfl (by intro v hv; simp at hv; rcases hv with rfl | rfl <;> rfl) .hd ?_
            refine TL.nil (Post.thnN ?_)
            -- cut c18, way y
            subst c18
            exact ⟨(), HLe.refl _, ⟨rfl, rfl⟩, rfl, rfl, rfl, rfl, rfl, rfl, trivial⟩
          · refine T.skip (Post.thnN ?_)
            -- cut c18, way n
            subst c18
            exact ⟨(), HLe.refl _, ⟨rfl, rfl⟩, rfl, rfl, rfl, rfl, rfl, rfl, trivial⟩
        · intro _ σ_c18 H_c18 L_c18 ds_c18 s_c18 hI_c18
          obtain ⟨rfl, rfl⟩ := hI_c18
          refine T.shut .hd ?_
          intro H7 s7 q7
          have h7 : H7 b7 = some (.cells #[.int .i64 (sw b y).1, .int .i64 (sw b y).2] 37) := shut1 q7
          obtain ⟨cr, RR, hpr, hoc, hput⟩ := F2.take (sw b y).1 ((hf.mono s_c18).mono s7) hnd (hno _)
          refine T.permL (L' := cr :: [(b8, .map es ck)] :: RR) (perm_take1 hpr) ?_
          have hbl := tosB_len b xs k (sw b y).1
          refine T.draw Try_mixed (by kernel_rfl) ?_
          refine Plan.v 0 [1, 2, 3, 4, 5, 6, 7, 8, 9, 10, 11] (by kernel_rfl) (by kernel_rfl) (by kernel_rfl) (by kernel_rfl) rfl (fun _ _ h_ => R.ldH Try.isAgg97 rfl rfl (s7 _ _ (s_c18 _ _ (s_0 _ _ h5))) rfl (TL.nil h_)) ?_
          refine Plan.v 1 [2, 3, 4, 5, 6, 7, 8, 9, 10, 11] (by kernel_rfl) (by kernel_rfl) (by kernel_rfl) (by kernel_rfl) rfl (fun _ _ h_ => R.fldA Try.underlying37 rfl Try.sizeOf3 (by decide) rfl rfl (TL.nil h_)) ?_
          refine Plan.v 2 [3, 4, 5, 6, 7, 8, 9, 10, 11] (by kernel_rfl) (by kernel_rfl) (by kernel_rfl) (by kernel_rfl) rfl (fun _ _ h_ => R.ldH Try.isAgg3 rfl rfl (h7) rfl (TL.nil h_)) ?_
          refine Plan.v 3 [4, 5, 6, 7, 8, 9, 10, 11] (by kernel_rfl) (by kernel_rfl) (by kernel_rfl) (by kernel_rfl) rfl (fun _ _ h_ => R.ldH Try.isAgg97 rfl rfl (s7 _ _ (s_c18 _ _ (s_0 _ _ h5))) rfl (TL.nil h_)) ?_
          refine Plan.v 4 [5, 6, 7, 8, 9, 10, 11] (by kernel_rfl) (by kernel_rfl) (by kernel_rfl) (by kernel_rfl) rfl (fun _ _ h_ => R.fldA Try.underlying37 rfl Try.sizeOf3 (by decide) rfl rfl (TL.nil h_)) ?_
          refine Plan.v 5 [6, 7, 8, 9, 10, 11] (by kernel_rfl) (by kernel_rfl) (by kernel_rfl) (by kernel_rfl) rfl (fun _ _ h_ => R.ldH Try.isAgg3 rfl rfl (h7) rfl (TL.nil h_)) ?_
          refine Plan.v 7 [6, 8, 9, 10, 11] (by kernel_rfl) (by kernel_rfl) (by kernel_rfl) (by kernel_rfl) rfl (fun _ _ h_ => R.fldA Try.underlying37 rfl Try.sizeOf3 (by decide) rfl rfl (TL.nil h_)) ?_
          refine Plan.v 8 [6, 9, 10, 11] (by kernel_rfl) (by kernel_rfl) (by kernel_rfl) (by kernel_rfl) rfl (fun _ _ h_ => R.ldH Try.isAgg3 rfl rfl (h7) rfl (TL.nil h_)) ?_
          refine Plan.s2 6 9 [9, 10, 11] [6, 10, 11] (by kernel_rfl) (by kernel_rfl) (by kernel_rfl) rfl rfl ?_ ?_
          · refine R.lku Try.underlying97 Try.underlying3 Try.zeroValue23 rfl rfl rfl (by first | exact .hd | exact .tl .hd | exact .tl (.tl .hd) | exact .tl (.tl (.tl .hd)) | exact .tl (.tl (.tl (.tl .hd))) | exact .tl (.tl (.tl (.tl (.tl .hd)))) | exact .tl (.tl (.tl (.tl (.tl (.tl .hd))))) | exact .tl (.tl (.tl (.tl (.tl (.tl (.tl .hd)))))) | exact .tl (.tl (.tl (.tl (.tl (.tl (.tl (.tl .hd))))))) | exact .tl (.tl (.tl (.tl (.tl (.tl (.tl (.tl (.tl .hd))))))))) hm ?_
            refine TL.nil (Plan.e1 (HLe.refl _) ?_)
            refine Plan.s1 9 [10, 11] (by kernel_rfl) (by kernel_rfl) rfl ?_
            refine R.bs rfl (run_buildSlice1 Try.underlying23 Try.sizeOf3 Try.zeroValue3 rfl rfl) ?_
            intro b33
            refine TL.nil (Plan.e1 (HLe.refl _) ?_)
            refine Plan.s1 10 [11] (by kernel_rfl) (by kernel_rfl) rfl ?_
            refine R.app (ys := [(sw b y).2]) Try_ty23 rfl rfl rfl hoc (.tl .hd) (Src.lit (vs := [.int .i64 (sw b y).2]) (by first | exact .hd | exact .tl .hd | exact .tl (.tl .hd) | exact .tl (.tl (.tl .hd)) | exact .tl (.tl (.tl (.tl .hd))) | exact .tl (.tl (.tl (.tl (.tl .hd)))) | exact .tl (.tl (.tl (.tl (.tl (.tl .hd))))) | exact .tl (.tl (.tl (.tl (.tl (.tl (.tl .hd)))))) | exact .tl (.tl (.tl (.tl (.tl (.tl (.tl (.tl .hd))))))) | exact .tl (.tl (.tl (.tl (.tl (.tl (.tl (.tl (.tl .hd)))))))))) ⟨[.int .i64 (sw b y).2], [], rfl, rfl, rfl⟩ (by first | omega | (simp; omega)) (by first | omega | (simp; omega)) ?_
            intro v34 c34 w34
            refine TL.del (.tl .hd) ?_
            refine TL.nil (Plan.e1 (HLe.refl _) ?_)
            refine Plan.s1 11 [] (by kernel_rfl) (by kernel_rfl) rfl ?_
            refine R.mup Try.underlying97 Try.underlying3 rfl rfl rfl rfl (.tl .hd) hm ?_
            intro es35 ck35 i35
            refine TL.nil (Plan.e0 (HLe.refl _) ?_)
            refine Plan.done (Post.blkN ?_)
            refine id (Post.thnN ?_)
            obtain ⟨rowsX, hfX, hpX⟩ := hput H7 v34 c34 _ (HLe.refl _) w34
            refine T.permL (L' := [(b8, .map es35 ck35)] :: rowsX) (perm_put1 hpX) ?_
            refine T.region ?_
            refine R.addI rfl rfl rfl (by omega) ?_
            refine R.mvE rfl (by conv => lhs; whnf) ?_
            refine TL.nil (Post.thnN ?_)
            -- round's end, way yy0
            refine ⟨(k + 1, mput m (sw b y).1 v34, rowsX, es35, ck35), s_0.trans (s_c18.trans s7), ⟨by show k + 1 ≤ _; omega, rfl, rfl, i35, by rw [← tosB_snoc hy]; exact hfX, mput_nodup _ _ _ hnd, fun j hj => ?_⟩, by show xs.length - (k + 1) < xs.length - k; omega, ⟨rfl, rfl, rfl, rfl, rfl, trivial⟩⟩
            have h9 : j ≠ (sw b y).1 ∧ j ∉ m.map Prod.fst := by
              refine ⟨fun e => hj ((mput_keys _ _ _ _).2 (.inl e)), fun e => hj ((mput_keys _ _ _ _).2 (.inr e))⟩
            rw [← congrFun (tosB_snoc hy) j, if_neg h9.1]
            exact hno j h9.2
          · refine R.bs rfl (run_buildSlice1 Try.underlying23 Try.sizeOf3 Try.zeroValue3 rfl rfl) ?_
            intro b33
            refine TL.nil (Plan.e1 (HLe.refl _) ?_)
            refine Plan.s1 6 [10, 11] (by kernel_rfl) (by kernel_rfl) rfl ?_
            refine R.lku Try.underlying97 Try.underlying3 Try.zeroValue23 rfl rfl rfl (by first | exact .hd | exact .tl .hd | exact .tl (.tl .hd) | exact .tl (.tl (.tl .hd)) | exact .tl (.tl (.tl (.tl .hd))) | exact .tl (.tl (.tl (.tl (.tl .hd)))) | exact .tl (.tl (.tl (.tl (.tl (.tl .hd))))) | exact .tl (.tl (.tl (.tl (.tl (.tl (.tl .hd)))))) | exact .tl (.tl (.tl (.tl (.tl (.tl (.tl (.tl .hd))))))) | exact .tl (.tl (.tl (.tl (.tl (.tl (.tl (.tl (.tl .hd))))))))) hm ?_
            refine TL.nil (Plan.e1 (HLe.refl _) ?_)
            refine Plan.s1 10 [11] (by kernel_rfl) (by kernel_rfl) rfl ?_
            refine R.app (ys := [(sw b y).2]) Try_ty23 rfl rfl rfl hoc (.tl .hd) (Src.lit (vs := [.int .i64 (sw b y).2]) (by first | exact .hd | exact .tl .hd | exact .tl (.tl .hd) | exact .tl (.tl (.tl .hd)) | exact .tl (.tl (.tl (.tl .hd))) | exact .tl (.tl (.tl (.tl (.tl .hd)))) | exact .tl (.tl (.tl (.tl (.tl (.tl .hd))))) | exact .tl (.tl (.tl (.tl (.tl (.tl (.tl .hd)))))) | exact .tl (.tl (.tl (.tl (.tl (.tl (.tl (.tl .hd))))))) | exact .tl (.tl (.tl (.tl (.tl (.tl (.tl (.tl (.tl .hd)))))))))) ⟨[.int .i64 (sw b y).2], [], rfl, rfl, rfl⟩ (by first | omega | (simp; omega)) (by first | omega | (simp; omega)) ?_
            intro v34 c34 w34
            refine TL.del (.tl .hd) ?_
            refine TL.nil (Plan.e1 (HLe.refl _) ?_)
            refine Plan.s1 11 [] (by kernel_rfl) (by kernel_rfl) rfl ?_
            refine R.mup Try.underlying97 Try.underlying3 rfl rfl rfl rfl (.tl .hd) hm ?_
            intro es35 ck35 i35
            refine TL.nil (Plan.e0 (HLe.refl _) ?_)
            refine Plan.done (Post.blkN ?_)
            refine id (Post.thnN ?_)
            obtain ⟨rowsX, hfX, hpX⟩ := hput H7 v34 c34 _ (HLe.refl _) w34
            refine T.permL (L' := [(b8, .map es35 ck35)] :: rowsX) (perm_put1 hpX) ?_
            refine T.region ?_
            refine R.addI rfl rfl rfl (by omega) ?_
            refine R.mvE rfl (by conv => lhs; whnf) ?_
            refine TL.nil (Post.thnN ?_)
            -- round's end, way yy1
            refine ⟨(k + 1, mput m (sw b y).1 v34, rowsX, es35, ck35), s_0.trans (s_c18.trans s7), ⟨by show k + 1 ≤ _; omega, rfl, rfl, i35, by rw [← tosB_snoc hy]; exact hfX, mput_nodup _ _ _ hnd, fun j hj => ?_⟩, by show xs.length - (k + 1) < xs.length - k; omega, ⟨rfl, rfl, rfl, rfl, rfl, trivial⟩⟩
            have h9 : j ≠ (sw b y).1 ∧ j ∉ m.map Prod.fst := by
              refine ⟨fun e => hj ((mput_keys _ _ _ _).2 (.inl e)), fun e => hj ((mput_keys _ _ _ _).2 (.inr e))⟩
            rw [← congrFun (tosB_snoc hy) j, if_neg h9.1]
            exact hno j h9.2
      · refine T.exit (Post.thnE (Post.thnE (Post.blkX ?_)))
        refine id (Post.thnN ?_)
        refine T.seq ?_
        have hkx : k = xs.length := by omega
        refine T.permL (L' := [List.flatten ([(b8, .map es ck)] :: rows)]) perm_one ?_
        refine T.shut .hd ?_
        intro HF sF qF
        have hmF : HF b8 = some (.map es ck) := qF (b8, .map es ck) (by simp)
        have hAt : ∀ j, RdS (intE .i64) HF ((mget m j).getD (.slice none 0 0)) (tbL b xs j) := fun j => by
          rw [← tosB_all hcb j, ← hkx]
          exact hf.read j sF (fun q hq => qF q (by simp only [List.flatten_cons]; exact List.mem_append_right _ hq)) (hno j)
        have h5F := sF _ _ (s_0 _ _ h5)
        refine T.region ?_
        refine R.mkf (cs := [_]) rfl rfl ?_
        refine R.asE rfl (by conv => lhs; whnf) ?_
        refine TL.nil (Post.thnN ?_)
        refine T.ret ?_
        -- way yn
        exact fin1 rfl rfl ⟨rfl, rfl, fun H2 h2 x => steps1_c H2 b5 b8 _ _ _ _ x (h2 _ _ h5F) (h2 _ _ hmF) hm (fun j => (hAt j).mono h2)⟩
  · have hcb : chainB xs = false := by
      cases h : chainB xs with
      | false => rfl
      | true => rw [h] at c11; exact absurd rfl c11
    refine T.skip (Post.thnN ?_)
    refine T.seq ?_
    refine T.shut .hd ?_
    intro HF sF qF
    have hmF : HF b8 = some (.map #[] 0) := shut1 qF
    have hAt : ∀ j, RdS (intE .i64) HF ((mget [] j).getD (.slice none 0 0)) (tbL b xs j) := fun j => by
      rw [tb_bad hcb]; exact RdS.nil
    have h5F := sF _ _ h5
    have hm := mapIs_nil .i64
    refine T.region ?_
    refine R.mkf (cs := [_]) rfl rfl ?_
    refine R.asE rfl (by conv => lhs; whnf) ?_
    refine TL.nil (Post.thnN ?_)
    refine T.ret ?_
    -- way n
    exact fin1 rfl rfl ⟨rfl, rfl, fun H2 h2 x => steps1_c H2 b5 b8 _ _ _ _ x (h2 _ _ h5F) (h2 _ _ hmF) hm (fun j => (hAt j).mono h2)⟩


set_option maxHeartbeats 1600000 in
theorem to_c (H : Heap) (v : Value) (xs : List Lk) (a : Int) (hr : RdS pairE H v xs) (hl : xs.length ≤ 1000) : Fp Try.prog (fnv 31) [v, .int .i64 a] H (fun v' H' => RdS (intE .i64) H' v' (tbL false xs a)) := by
  refine Fc.of_body (N := 9) Try.func31 rfl (by kernel_rfl) rfl rfl ?_
  intro w0
  obtain ⟨A, c, rfl, hc1, hc2, hr⟩ := hr.shape
  refine T.seq ?_
  refine T.region ?_
  refine R.asE rfl (by conv => lhs; whnf) ?_
  refine TL.nil (Post.thnN ?_)
  refine T.seq ?_
  refine T.region ?_
  refine R.mvE rfl (by conv => lhs; whnf) ?_
  refine R.callp rfl rfl rfl (steps_c _ _ xs false hr hl) ?_
  intro v6 H6 s6 q6
  obtain ⟨hcf, hst⟩ := q6
  refine R.mvE rfl (by conv => lhs; whnf) ?_
  refine R.callp rfl rfl rfl (hst _ (HLe.refl _) a) ?_
  intro v8 H8 s8 q8
  refine R.asE rfl (by conv => lhs; whnf) ?_
  refine TL.nil (Post.thnN ?_)
  refine T.ret ?_
  exact fin1 rfl rfl ⟨rfl, q8⟩


set_option maxHeartbeats 1600000 in
theorem from_c (H : Heap) (v : Value) (xs : List Lk) (a : Int) (hr : RdS pairE H v xs) (hl : xs.length ≤ 1000) : Fp Try.prog (fnv 53) [v, .int .i64 a] H (fun v' H' => RdS (intE .i64) H' v' (tbL true xs a)) := by
  refine Fc.of_body (N := 9) Try.func53 rfl (by kernel_rfl) rfl rfl ?_
  intro w0
  obtain ⟨A, c, rfl, hc1, hc2, hr⟩ := hr.shape
  refine T.seq ?_
  refine T.region ?_
  refine R.asE rfl (by conv => lhs; whnf) ?_
  refine TL.nil (Post.thnN ?_)
  refine T.seq ?_
  refine T.region ?_
  refine R.mvE rfl (by conv => lhs; whnf) ?_
  refine R.callp rfl rfl rfl (steps_c _ _ xs true hr hl) ?_
  intro v6 H6 s6 q6
  obtain ⟨hcf, hst⟩ := q6
  refine R.mvE rfl (by conv => lhs; whnf) ?_
  refine R.callp rfl rfl rfl (hst _ (HLe.refl _) a) ?_
  intro v8 H8 s8 q8
  refine R.asE rfl (by conv => lhs; whnf) ?_
  refine TL.nil (Post.thnN ?_)
  refine T.ret ?_
  exact fin1 rfl rfl ⟨rfl, q8⟩


set_option maxHeartbeats 1600000 in
theorem meet_c (H : Heap) (b4 b5 b14 : Nat) (es : Array MapEntry) (ck : Nat) (m : MapL) (s : MS) (vw : Value) (cw : Chunk) (x : Int) (h4 : H b4 = some (.cells #[.map (some b14)] 51)) (hm : MapIs .i64 es m) (hM : MetIs m s.1) (ho : OwnS (intE .i64) 3 H vw s.2 cw) (hl : s.2.length ≤ 1000000) : Fc Try.prog (.func (.func 89) #[] ([.pointer (some ⟨b4, 0, none⟩), .pointer (some ⟨b5, 0, none⟩)] : List Value).toArray) [.int .i64 x] H [[(b5, .cells #[vw] 23)], cw, [(b14, .map es ck)]] (fun _ H' L' => ∃ vw' cw' es' ck' m', L' = [[(b5, .cells #[vw'] 23)], cw', [(b14, .map es' ck')]] ∧ MapIs .i64 es' m' ∧ MetIs m' (meetS s x).1 ∧ OwnS (intE .i64) 3 H' vw' (meetS s x).2 cw') := by
  refine Fc.of_body (N := 14) Try.func89 rfl (by kernel_rfl) rfl rfl ?_
  intro w0
  refine T.seq ?_
  refine T.region ?_
  refine R.ldH Try.isAgg51 rfl rfl (h4) rfl ?_
  refine R.mvE rfl (by conv => lhs; whnf) ?_
  refine R.lku Try.underlying51 Try.underlying3 Try.zeroValue4 rfl rfl rfl (.tl (.tl .hd)) hm ?_
  refine TL.set 6 (.bool (decide (x ∈ s.1))) (hM x) ?_
  refine R.notD rfl rfl ?_
  refine TL.nil (Post.thnN ?_)
  refine T.condD rfl (fun c7 => ?_) (fun c7 => ?_)
  · refine T.seq ?_
    refine T.region ?_
    refine R.ldH Try.isAgg51 rfl rfl (h4) rfl ?_
    refine R.mvE rfl (by conv => lhs; whnf) ?_
    refine R.mup Try.underlying51 Try.underlying3 rfl rfl rfl rfl (.tl (.tl .hd)) hm ?_
    intro es9 ck9 i9
    refine TL.nil (Post.thnN ?_)
    refine T.region ?_
    refine R.ld Try.isAgg23 rfl rfl (by repeat (first | exact .hd | refine .tl ?_)) rfl ?_
    refine R.mvE rfl (by conv => lhs; whnf) ?_
    refine R.bs rfl (run_buildSlice1 Try.underlying23 Try.sizeOf3 Try.zeroValue3 rfl rfl) ?_
    intro b12
    refine R.app (ys := [x]) Try_ty23 rfl rfl rfl ho (.tl (.tl (.tl .hd))) (Src.lit (vs := [.int .i64 x]) .hd) ⟨[.int .i64 x], [], rfl, rfl, rfl⟩ (by simp; omega) (by simp; omega) ?_
    intro v13 c13 w13
    refine TL.del (.tl .hd) ?_
    refine R.st Try.sizeOf23 rfl rfl rfl (by obtain ⟨_, _, e, _⟩ := w13.shape; subst e; rfl) (by first | exact .hd | exact .tl .hd | exact .tl (.tl .hd) | exact .tl (.tl (.tl .hd)) | exact .tl (.tl (.tl (.tl .hd))) | exact .tl (.tl (.tl (.tl (.tl .hd)))) | exact .tl (.tl (.tl (.tl (.tl (.tl .hd))))) | exact .tl (.tl (.tl (.tl (.tl (.tl (.tl .hd)))))) | exact .tl (.tl (.tl (.tl (.tl (.tl (.tl (.tl .hd))))))) | exact .tl (.tl (.tl (.tl (.tl (.tl (.tl (.tl (.tl .hd))))))))) ?_
    refine TL.permL (L' := [[(b5, .cells #[v13] 23)], c13, [(b14, .map es9 ck9)]]) perm3 ?_
    refine TL.nil ?_
    -- way y
    exact fin0N _ rfl (List.Sublist.refl _) ⟨_, _, _, _, _, rfl, i9, by unfold meetS; rw [if_neg c7]; exact hM.put x, by unfold meetS; rw [if_neg c7]; exact w13⟩
  · refine T.skip ?_
    -- way n
    exact fin0N _ rfl (List.Sublist.refl _) ⟨_, _, _, _, _, rfl, hm, by unfold meetS; rw [if_pos (Decidable.of_not_not c7)]; exact hM, by unfold meetS; rw [if_pos (Decidable.of_not_not c7)]; exact ho⟩


theorem sort_c (H : Heap) (v : Value) (xs : List Int) (ch : Chunk) (ho : OwnS (intE .i64) 3 H v xs ch) (hne : xs ≠ []) (hl : xs.length ≤ 1099511627776) : Fc Try.prog (fnv 90) [v] H [ch] (fun _ H' L' => H' = H ∧ ∃ c', L' = [c'] ∧ OwnS (intE .i64) 3 H v (sortI xs) c') :=
  sort_fc (e := 3) Try.func90 rfl (by kernel_rfl) (fun blk off cap zs w h1 h2 h3 => Any.slices_Sort_int Try.lays189 blk off cap zs w h1 h2 h3) ho hne hl
end Go.SX
