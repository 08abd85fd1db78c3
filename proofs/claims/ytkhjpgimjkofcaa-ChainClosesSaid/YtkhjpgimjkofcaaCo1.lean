/- links: Values, Collect, SortFunc, SortedFunc. -/
import Derived.Test.YtkhjpgimjkofcaaCw1
import Derived.Test.YtkhjpgimjkofcaaWr
import Derived.Test.YtkhjpgimjkofcaaSxG
import Derived.Test.YtkhjpgimjkofcaaSrf
import Derived.Test.YtkhjpgimjkofcaaSx5
set_option linter.unusedVariables false
set_option linter.unusedSimpArgs false
namespace Go.SX
open Go Go.Proofs

def YP : Heap → List Value → Lk → Prop := fun _ vs y => vs = [.agg #[.int .i64 y.1, .int .i64 y.2]]
theorem Tryc_eqP (a b : Int × Int) (w : World) : (Op.equalIn 10000 37 (.agg #[.int .i64 a.1, .int .i64 a.2]) (.agg #[.int .i64 b.1, .int .i64 b.2])).run Try.prog w = .ok (decide (a = b)) w :=
  run_eq_pair Try.underlying37 (by kernel_rfl) (by decide) (by decide) rfl rfl rfl rfl Try.underlying3 Try.isAgg3 a b w
theorem Tryc_eqG : Try.prog.eqGuardType Try.prog.depth 37 = false := by kernel_rfl

set_option maxHeartbeats 1600000 in
theorem of1_c (H : Heap) (y : Lk) : Fv Try.prog (fnv 75) [.agg #[.int .i64 y.1, .int .i64 y.2]] H (.bool (!linkB y)) := by
  refine Fc.of_body (N := 6) Try.func75 rfl (by kernel_rfl) rfl rfl ?_
  intro w0
  refine T.seq ?_
  refine T.region ?_
  refine R.box rfl (by conv => lhs; whnf) ?_
  intro b1
  refine R.asE rfl (by conv => lhs; whnf) ?_
  refine TL.nil (Post.thnN ?_)
  refine T.seq ?_
  refine T.shut .hd ?_
  intro H1 s1 q1
  have h1 : H1 b1 = some (.cells #[.int .i64 y.1, .int .i64 y.2] 37) := shut1 q1
  refine T.region ?_
  refine R.ldAH Try.isAgg37 Try.sizeOf37 rfl rfl rfl h1 ?_
  refine R.callv rfl rfl rfl (link_c _ _) ?_
  refine R.not rfl rfl ?_
  refine R.asE rfl (by conv => lhs; whnf) ?_
  refine TL.nil (Post.thnN ?_)
  refine T.ret ?_
  exact fin1 rfl rfl ⟨rfl, rfl⟩


set_option maxHeartbeats 1600000 in
theorem valuesIt_c (H : Heap) (b : Nat) (v : Value) (xs : List Lk) (h1 : H b = some (.cells #[v] 22)) (hr : RdS pairE H v xs) : Iter Try.prog (.func (.func 95) #[] ([.pointer (some ⟨b, 0, none⟩)] : List Value).toArray) YP H xs := by
  obtain ⟨A, c, rfl, hc1, hc2, hr⟩ := hr.shape
  intro l J Jx H1 Lc hle hJ hJx hY h0
  refine Fc.of_body (N := 16) Try.func95 rfl (by kernel_rfl) rfl rfl ?_
  intro w0
  refine T.seq ?_
  refine T.region ?_
  refine R.ldH Try.isAgg22 rfl rfl (hle _ _ h1) rfl ?_
  refine R.len Try.underlying22 rfl rfl ?_
  refine R.mvE rfl (by conv => lhs; whnf) ?_
  refine TL.nil (Post.thnN ?_)
  refine T.block ?_
  refine T.loop (ι := Nat × Own) (fun ⟨k, Lj⟩ H' L' ds' => k ≤ xs.length ∧ ds' = [] ∧ L' = Lj ∧ J (xs.take k) H' Lj) (fun ⟨k, Lj⟩ => [(0, yieldv l), (5, .slice A xs.length c), (6, .int .i64 xs.length), (7, .int .i64 k)]) (fun ⟨k, Lj⟩ => xs.length - k) ((0, Lc)) ?_ ?_ ?_
  · exact ⟨Nat.zero_le _, rfl, rfl, h0⟩
  · exact ⟨rfl, rfl, rfl, rfl, trivial⟩
  · intro ⟨k, Lj⟩ σ0 H_0 L_0 ds_0 s_0 hI_0
    obtain ⟨hk, rfl, rfl, hJk⟩ := hI_0
    refine T.seq ?_
    refine T.region ?_
    refine R.lss rfl rfl rfl ?_
    refine TL.nil (Post.thnN ?_)
    refine T.seq ?_
    refine T.condD rfl (fun c8 => ?_) (fun c8 => ?_)
    · have hlt : k < xs.length := by omega
      obtain ⟨y, hy⟩ := getk hlt
      have hpre : (xs.take k ++ [y]) <+: xs := by rw [← take_snoc _ _ _ hy]; exact List.take_prefix _ _
      refine T.skip (Post.thnN ?_)
      refine T.seq ?_
      refine T.block ?_
      refine T.seq ?_
      refine T.region ?_
      obtain ⟨b9, o9, i9, e9⟩ := ((hr.mono hle).mono s_0).elem (hy)
      refine R.ixp Try.underlying22 Try.sizeOf37 rfl rfl rfl (by omega) i9 ?_
      refine R.ldP Try.isAgg37 Try.sizeOf37 rfl rfl (e9) ?_
      refine R.alloc Try.zeroValue37 rfl ?_
      intro b4
      refine R.stA (old := [.int .i64 0, .int .i64 0]) Try.sizeOf37 rfl rfl rfl rfl rfl (by intro v hv; simp at hv; rcases hv with rfl | rfl <;> rfl) .hd ?_
      refine TL.nil (Post.thnN ?_)
      refine T.seq ?_
      refine T.shut .hd ?_
      intro H4 s4 q4
      have h4 : H4 b4 = some (.cells #[.int .i64 y.1, .int .i64 y.2] 37) := shut1 q4
      refine T.region ?_
      refine R.mvE rfl (by conv => lhs; whnf) ?_
      refine R.ldAH Try.isAgg37 Try.sizeOf37 rfl rfl rfl h4 ?_
      refine TL.callT 0 rfl rfl rfl (hY (xs.take k) y _ H4 L_0 (s_0.trans s4) hpre (hJ _ _ _ _ s4 hJk) rfl) ?_
      intro v13 H13 L13 s13 q13
      rcases q13 with ⟨rfl, hJ2⟩ | ⟨rfl, hJ2⟩
      · refine R.not rfl rfl ?_
        refine TL.nil (Post.thnN ?_)
        refine T.condN rfl ?_
        refine T.skip (Post.blkN ?_)
        refine id (Post.thnN ?_)
        refine T.region ?_
        refine R.addI rfl rfl rfl (by omega) ?_
        refine R.mvE rfl (by conv => lhs; whnf) ?_
        refine TL.nil (Post.thnN ?_)
        -- round's end, way yy
        exact ⟨(k + 1, L13), s_0.trans (s4.trans s13), ⟨by show k + 1 ≤ _; omega, rfl, rfl, by rw [take_snoc _ _ _ hy]; exact hJ2⟩, by show xs.length - (k + 1) < xs.length - k; omega, ⟨rfl, rfl, rfl, rfl, trivial⟩⟩
      · refine R.not rfl rfl ?_
        refine TL.nil (Post.thnN ?_)
        refine T.condY rfl ?_
        refine T.ret (Post.blkR (Post.thnR (Post.thnR (Post.blkR ?_))))
        -- way yn
        exact fin0L L13 rfl (List.Sublist.refl _) (.inr ⟨_, y, hpre, hJ2⟩)
    · have hkx : k = xs.length := by omega
      rw [hkx, List.take_length] at hJk
      refine T.exit (Post.thnE (Post.thnE (Post.blkX ?_)))
      refine id ?_
      -- way n
      exact fin0N L_0 rfl (List.Sublist.refl _) (.inl hJk)


set_option maxHeartbeats 1600000 in
theorem values_c (H : Heap) (v : Value) (xs : List Lk) (hr : RdS pairE H v xs) : Fp Try.prog (fnv 78) [v] H (fun v' H' => ∃ lb, v' = .func (.func 95) #[] lb ∧ Iter Try.prog v' YP H' xs) := by
  refine Fc.of_body (N := 4) Try.func78 rfl (by kernel_rfl) rfl rfl ?_
  intro w0
  obtain ⟨A, c, rfl, hc1, hc2, hr⟩ := hr.shape
  refine T.seq ?_
  refine T.region ?_
  refine R.box rfl (by conv => lhs; whnf) ?_
  intro b1
  refine R.asE rfl (by conv => lhs; whnf) ?_
  refine TL.nil (Post.thnN ?_)
  refine T.seq ?_
  refine T.shut .hd ?_
  intro H1 s1 q1
  refine T.region ?_
  refine R.mkf (cs := [_]) rfl rfl ?_
  refine R.asE rfl (by conv => lhs; whnf) ?_
  refine TL.nil (Post.thnN ?_)
  refine T.ret ?_
  exact fin1 rfl rfl ⟨rfl, _, rfl, valuesIt_c H1 b1 _ xs (shut1 q1) (hr.mono s1)⟩


set_option maxHeartbeats 1600000 in
theorem appseqP_c (H : Heap) (gf : Nat) (lb : Array Value) (xs : List Lk) (hen : Enters Try.prog gf) (hl : xs.length ≤ 100000) (hit : Iter Try.prog (.func (.func gf) #[] lb) YP H xs) : Fc Try.prog (fnv 98) [.slice none 0 0, .func (.func gf) #[] lb] H [] (fun v' H' L' => ∃ c, L' = [c] ∧ OwnS pairE 37 H' v' xs c) := by
  refine Fc.of_body (N := 13) Try.func98 rfl (by kernel_rfl) rfl rfl ?_
  intro w0
  refine T.seq ?_
  refine T.region ?_
  refine R.box rfl (by conv => lhs; whnf) ?_
  intro b2
  refine R.asE rfl (by conv => lhs; whnf) ?_
  refine TL.nil (Post.thnN ?_)
  refine T.seq ?_
  refine T.seq ?_
  refine T.nilc ?_
  refine T.region ?_
  refine R.mvE rfl (by conv => lhs; whnf) ?_
  refine TL.nil (Post.thnN ?_)
  refine T.block ?_
  refine T.rangeFunc rfl rfl hen hit (fun _ _ _ h => by subst h; rfl) rfl (fun pre H' L' => ∃ v c, L' = [c, [(b2, .cells #[v] 22)]] ∧ OwnS pairE 37 H' v pre c) (fun c pre H' L' => False) (fun pre H H' L hle ⟨v, c, h1, h2⟩ => ⟨v, c, h1, h2.mono hle⟩) (fun _ _ _ _ _ _ h => h) ?_ ?_ ?_ ?_
  · exact ⟨_, _, rfl, OwnS.nil⟩
  · intro l0 r0 w0 pre y vs Hr0 Lr0 sr0 hp0 hI0 hY0
    obtain ⟨v, c, rfl, ho⟩ := hI0
    obtain rfl := hY0
    have hpl := hp0.length_le
    simp at hpl
    refine T.region ?_
    refine R.alloc Try.zeroValue37 rfl ?_
    intro b5
    refine R.stA (old := [.int .i64 0, .int .i64 0]) Try.sizeOf37 rfl rfl rfl rfl rfl (by intro v hv; simp at hv; rcases hv with rfl | rfl <;> rfl) .hd ?_
    refine TL.nil ?_
    refine onlyN.mk ?_
    refine T.block ?_
    refine T.shut .hd ?_
    intro H5 s5 q5
    have h5 : H5 b5 = some (.cells #[.int .i64 y.1, .int .i64 y.2] 37) := shut1 q5
    refine T.region ?_
    refine R.ld Try.isAgg22 rfl rfl (by repeat (first | exact .hd | refine .tl ?_)) rfl ?_
    refine R.ldAH Try.isAgg37 Try.sizeOf37 rfl rfl rfl h5 ?_
    refine R.bs (e := 37) (cs := [.int .i64 y.1, .int .i64 y.2]) rfl (fun _ => by kernel_rfl) ?_
    intro b10
    refine R.app (ys := [y]) Try_ty22 rfl rfl rfl (ho.mono s5) (.tl .hd) (Src.lit (vs := [.int .i64 y.1, .int .i64 y.2]) .hd) ⟨[.int .i64 y.1, .int .i64 y.2], [], rfl, rfl, rfl⟩ (by simp; omega) (by simp; omega) ?_
    intro v11 c11 w11
    refine R.st Try.sizeOf22 rfl rfl rfl (by obtain ⟨_, _, e, _⟩ := w11.shape; subst e; rfl) (by first | exact .hd | exact .tl .hd | exact .tl (.tl .hd) | exact .tl (.tl (.tl .hd)) | exact .tl (.tl (.tl (.tl .hd))) | exact .tl (.tl (.tl (.tl (.tl .hd)))) | exact .tl (.tl (.tl (.tl (.tl (.tl .hd))))) | exact .tl (.tl (.tl (.tl (.tl (.tl (.tl .hd)))))) | exact .tl (.tl (.tl (.tl (.tl (.tl (.tl (.tl .hd))))))) | exact .tl (.tl (.tl (.tl (.tl (.tl (.tl (.tl (.tl .hd))))))))) ?_
    refine TL.del (.tl .hd) ?_
    refine TL.nil (Post.blkN ?_)
    refine id ?_
    -- way b
    exact ⟨v11, c11, rfl, w11⟩
  · intro D0 Hr0 Lr0 sr0 hI0
    obtain ⟨v, c, rfl, ho⟩ := hI0
    refine id (Post.blkN ?_)
    refine id (Post.thnN ?_)
    refine T.seq ?_
    refine T.region ?_
    refine R.ld Try.isAgg22 rfl rfl (by repeat (first | exact .hd | refine .tl ?_)) rfl ?_
    refine R.asE rfl (by conv => lhs; whnf) ?_
    refine TL.nil (Post.thnN ?_)
    refine T.ret ?_
    -- way d
    exact fin1L [c] rfl rfl (List.Sublist.cons_cons _ (List.nil_sublist _)) ⟨c, rfl, ho⟩
  · intro D0 c0 pre y Hr0 Lr0 sr0 hp0 hI0
    exact hI0.elim


set_option maxHeartbeats 1600000 in
theorem collectP_c (H : Heap) (gf : Nat) (lb : Array Value) (xs : List Lk) (hen : Enters Try.prog gf) (hl : xs.length ≤ 100000) (hit : Iter Try.prog (.func (.func gf) #[] lb) YP H xs) : Fc Try.prog (fnv 93) [.func (.func gf) #[] lb] H [] (fun v' H' L' => ∃ c, L' = [c] ∧ OwnS pairE 37 H' v' xs c) := by
  refine Fc.of_body (N := 5) Try.func93 rfl (by kernel_rfl) rfl rfl ?_
  intro w0
  refine T.seq ?_
  refine T.region ?_
  refine R.asE rfl (by conv => lhs; whnf) ?_
  refine TL.nil (Post.thnN ?_)
  refine T.seq ?_
  refine T.region ?_
  refine R.mvE rfl (by conv => lhs; whnf) ?_
  refine TL.call [] rfl rfl rfl (appseqP_c _ gf lb xs hen hl hit) ?_
  intro v4 H4 L4 s4 q4
  obtain ⟨c4, rfl, w4⟩ := q4
  refine R.asE rfl (by conv => lhs; whnf) ?_
  refine TL.nil (Post.thnN ?_)
  refine T.ret ?_
  exact fin1L [c4] rfl rfl (List.Sublist.refl _) ⟨_, rfl, w4⟩


theorem sortF_c (H : Heap) (v : Value) (xs : List Lk) (ch : Chunk) (ho : OwnS pairE 37 H v xs ch) (hl : xs.length ≤ 1099511627776) : Fc Try.prog (fnv 94) [v, fnv 68] H [ch] (fun _ H' L' => H' = H ∧ ∃ c', L' = [c'] ∧ OwnS pairE 37 H v (sortP cmpP xs) c') :=
  sortF_fc (e := 37) Try.func94 rfl (by kernel_rfl) (fun blk off cap d w h1 h2 h3 => AnyQ.slices_SortFunc_total Try.sortF 2 Try.isAgg37 Try.sizeOf37 encP (fun _ => rfl) (fun x v hv => by simp [encP] at hv; rcases hv with rfl | rfl <;> rfl) cmpP swo_cmp 68 #[] blk off cap d w
    (enters_of Try.func68 (by kernel_rfl) rfl) (cmp_lays Try.func68 rfl (by kernel_rfl) (fun H a b => cmpP_c H a b) blk off d.size w) h1 h2 h3 tot_cmp)
    (fun p cap fv w => AnyF.slices_SortFunc_none Try.sortF p cap fv w) ho hl

set_option maxHeartbeats 1600000 in
theorem sortedF_c (H : Heap) (gf : Nat) (lb : Array Value) (xs : List Lk) (hen : Enters Try.prog gf) (hl : xs.length ≤ 100000) (hit : Iter Try.prog (.func (.func gf) #[] lb) YP H xs) : Fc Try.prog (fnv 77) [.func (.func gf) #[] lb, fnv 68] H [] (fun v' H' L' => ∃ c, L' = [c] ∧ OwnS pairE 37 H' v' (sortP cmpP xs) c) := by
  refine Fc.of_body (N := 12) Try.func77 rfl (by kernel_rfl) rfl rfl ?_
  intro w0
  refine T.seq ?_
  refine T.region ?_
  refine R.asE rfl (by conv => lhs; whnf) ?_
  refine TL.nil (Post.thnN ?_)
  refine T.seq ?_
  refine T.region ?_
  refine R.mvE rfl (by conv => lhs; whnf) ?_
  refine TL.call [] rfl rfl rfl (collectP_c _ gf lb xs hen hl hit) ?_
  intro v7 H7 L7 s7 q7
  obtain ⟨c7, rfl, w7⟩ := q7
  refine R.asE rfl (by conv => lhs; whnf) ?_
  refine TL.nil (Post.thnN ?_)
  refine T.seq ?_
  refine T.region ?_
  refine R.mvE rfl (by conv => lhs; whnf) ?_
  refine R.mvE rfl (by conv => lhs; whnf) ?_
  refine TL.call [true] rfl rfl rfl (sortF_c _ _ xs c7 w7 (by omega)) ?_
  intro v10 H10 L10 s10 q10
  obtain ⟨rfl, c10, rfl, w10⟩ := q10
  refine TL.nil (Post.thnN ?_)
  refine T.seq ?_
  refine T.region ?_
  refine R.mvE rfl (by conv => lhs; whnf) ?_
  refine R.asE rfl (by conv => lhs; whnf) ?_
  refine TL.nil (Post.thnN ?_)
  refine T.ret ?_
  exact fin1L [c10] rfl rfl (List.Sublist.refl _) ⟨_, rfl, w10⟩

end Go.SX
