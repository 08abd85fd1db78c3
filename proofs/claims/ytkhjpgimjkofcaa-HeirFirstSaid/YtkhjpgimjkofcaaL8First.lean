/- HeirFirst answers true, whatever the input. -/
import Derived.Test.YtkhjpgimjkofcaaHe5
import Derived.Test.YtkhjpgimjkofcaaCw3
import Derived.Test.YtkhjpgimjkofcaaWp
set_option linter.unusedVariables false
set_option linter.unusedSimpArgs false
namespace Go.SX
open Go Go.Proofs

set_option maxHeartbeats 1600000 in
theorem first1_c (H : Heap) (b3 : Nat) (u : Value) (os : List Int) (x : Int) (h3 : H b3 = some (.cells #[u] 23)) (hr : RdS (intE .i64) H u os) : Fv Try.prog (.func (.func 35) #[] ([.pointer (some ⟨b3, 0, none⟩)] : List Value).toArray) [.int .i64 x] H (.bool (ownP os x)) := by
  refine Fc.of_body (N := 7) Try.func35 rfl (by kernel_rfl) rfl rfl ?_
  intro w0
  obtain ⟨A, c, rfl, hc1, hc2, hr⟩ := hr.shape
  refine T.seq ?_
  refine T.region ?_
  refine R.asE rfl (by conv => lhs; whnf) ?_
  refine TL.nil (Post.thnN ?_)
  refine T.seq ?_
  refine T.region ?_
  refine R.ldH Try.isAgg23 rfl rfl (h3) rfl ?_
  refine R.mvE rfl (by conv => lhs; whnf) ?_
  refine R.callv rfl rfl rfl (containsI23_c _ _ _ _ hr) ?_
  refine R.asE rfl (by conv => lhs; whnf) ?_
  refine TL.nil (Post.thnN ?_)
  refine T.ret ?_
  exact fin1 rfl rfl ⟨rfl, rfl⟩


set_option maxHeartbeats 1600000 in
theorem heirFirst_c (H : Heap) (v u : Value) (xs : List Lk) (a : Int) (os : List Int) (hr : RdS pairE H v xs) (hr2 : RdS (intE .i64) H u os) : Fv Try.prog (fnv 7) [v, .int .i64 a, u] H (.bool true) := by
  refine Fc.of_body (N := 155) Try.func7 rfl (by kernel_rfl) rfl rfl ?_
  intro w0
  obtain ⟨A, c, rfl, hc1, hc2, hr⟩ := hr.shape
  obtain ⟨A2, c2, rfl, hc3, hc4, hr2⟩ := hr2.shape
  obtain ⟨fx, hfx⟩ : ∃ l, l = xs.take 24 := ⟨_, rfl⟩
  have hfl : fx.length ≤ 1000 := by rw [hfx]; simp; omega
  obtain ⟨fo, hfo⟩ : ∃ l, l = os.take 8 := ⟨_, rfl⟩
  refine T.seq ?_
  refine T.region ?_
  refine R.asE rfl (by conv => lhs; whnf) ?_
  refine TL.nil (Post.thnN ?_)
  refine T.seq ?_
  refine T.seq ?_
  refine T.region ?_
  refine R.callv rfl rfl rfl (wakes18_c _) ?_
  refine R.not rfl rfl ?_
  refine TL.nil (Post.thnN ?_)
  refine T.condN rfl ?_
  refine T.skip (Post.thnN ?_)
  refine T.seq ?_
  refine T.region ?_
  refine R.mvE rfl (by conv => lhs; whnf) ?_
  refine TL.call [] rfl rfl rfl (own18_c _ _ _ hr) ?_
  intro v30 H30 L30 s30 q30
  obtain ⟨c30, rfl, w30⟩ := q30
  rw [← hfx] at w30
  refine TL.shut .hd ?_
  intro HF30 sF30 qF30
  have f30 := w30.read sF30 qF30
  obtain ⟨AF30, pF30, rfl, mF30, nF30, f30⟩ := f30.shape
  refine R.mvE rfl (by conv => lhs; whnf) ?_
  refine TL.call [] rfl rfl rfl (few18_c _ _ _ (hr2.mono (s30.trans sF30))) ?_
  intro v32 H32 L32 s32 q32
  obtain ⟨c32, rfl, w32⟩ := q32
  rw [← hfo] at w32
  refine TL.shut .hd ?_
  intro HF32 sF32 qF32
  have f32 := w32.read sF32 qF32
  obtain ⟨AF32, pF32, rfl, mF32, nF32, f32⟩ := f32.shape
  refine R.alloc Try.zeroValue23 rfl ?_
  intro b8
  refine R.asE rfl (by conv => lhs; whnf) ?_
  refine R.st Try.sizeOf23 rfl rfl (by conv => lhs; whnf) rfl (by first | exact .hd | exact .tl .hd | exact .tl (.tl .hd) | exact .tl (.tl (.tl .hd)) | exact .tl (.tl (.tl (.tl .hd))) | exact .tl (.tl (.tl (.tl (.tl .hd)))) | exact .tl (.tl (.tl (.tl (.tl (.tl .hd))))) | exact .tl (.tl (.tl (.tl (.tl (.tl (.tl .hd)))))) | exact .tl (.tl (.tl (.tl (.tl (.tl (.tl (.tl .hd))))))) | exact .tl (.tl (.tl (.tl (.tl (.tl (.tl (.tl (.tl .hd))))))))) ?_
  refine TL.nil (Post.thnN ?_)
  refine T.seq ?_
  refine T.shut .hd ?_
  intro H8 s8 q8
  have h8 := shut1 q8
  refine T.region ?_
  refine R.mvE rfl (by conv => lhs; whnf) ?_
  refine R.mvE rfl (by conv => lhs; whnf) ?_
  refine R.callp rfl rfl rfl (order_c _ _ fx a (f30.mono (s32.trans (sF32.trans s8))) hfl) ?_
  intro v36 H36 s36 q36
  obtain ⟨w36, rfl, g36⟩ := q36
  obtain ⟨O, hO⟩ : ∃ L, L = (if chainB fx = true then (askL fx a).map lastI else []) := ⟨_, rfl⟩
  rw [← hO] at g36
  obtain ⟨A36, k36, rfl, m36, n36, g36⟩ := g36.shape
  refine R.mvE rfl (by conv => lhs; whnf) ?_
  refine R.ext rfl rfl rfl ?_
  refine R.ext rfl rfl rfl ?_
  refine R.asE rfl (by conv => lhs; whnf) ?_
  refine R.asE rfl (by conv => lhs; whnf) ?_
  refine TL.nil (Post.thnN ?_)
  refine T.seq ?_
  refine T.region ?_
  refine R.mvE rfl (by conv => lhs; whnf) ?_
  refine R.mvE rfl (by conv => lhs; whnf) ?_
  refine R.ldH Try.isAgg23 rfl rfl (s36 _ _ h8) rfl ?_
  refine R.callp rfl rfl rfl (owner_c _ _ fx a (f30.mono (s32.trans (sF32.trans (s8.trans s36)))) hfl _ fo (f32.mono (s8.trans s36))) ?_
  intro v43 H43 s43 q43
  obtain ⟨w43, rfl, g43⟩ := q43
  refine R.mvE rfl (by conv => lhs; whnf) ?_
  refine R.ext rfl rfl rfl ?_
  refine R.ext rfl rfl rfl ?_
  refine R.ext rfl rfl rfl ?_
  refine R.asE rfl (by conv => lhs; whnf) ?_
  refine R.asE rfl (by conv => lhs; whnf) ?_
  refine R.asE rfl (by conv => lhs; whnf) ?_
  refine TL.nil (Post.thnN ?_)
  refine T.seq ?_
  refine T.seq ?_
  refine T.region ?_
  refine R.mvE rfl (by conv => lhs; whnf) ?_
  refine R.neq rfl rfl rfl ?_
  refine TL.nil (Post.thnN ?_)
  refine T.condD rfl (fun c48 => ?_) (fun c48 => ?_)
  · have hcb : chainB fx = false := by
      cases h : chainB fx with
      | false => rfl
      | true => rw [h] at c48; exact absurd rfl c48
    refine T.seq ?_
    refine T.region ?_
    refine R.mvE rfl (by conv => lhs; whnf) ?_
    refine R.mvE rfl (by conv => lhs; whnf) ?_
    refine R.eql rfl rfl rfl ?_
    refine R.mvE rfl (by conv => lhs; whnf) ?_
    refine TL.set 52 (.bool true) (congrArg Value.bool (by simp [firstR_bad hcb, hcb])) ?_
    refine R.mvE rfl (by conv => lhs; whnf) ?_
    refine R.len Try.underlying23 rfl rfl ?_
    refine R.eql rfl rfl rfl ?_
    refine R.pkTE rfl rfl (by conv => lhs; whnf) ?_
    refine R.asE rfl (by conv => lhs; whnf) ?_
    refine TL.nil (Post.thnN ?_)
    refine T.ret (Post.thnR ?_)
    -- way y
    exact fin1 rfl rfl ⟨rfl, congrArg Value.bool (by simp [hO, hcb])⟩
  · have hc : chainB fx = true := by
      cases h : chainB fx with
      | true => rfl
      | false => rw [h] at c48; exact absurd (by decide) c48
    have hOa : O = (askL fx a).map lastI := by rw [hO, if_pos hc]
    refine T.skip (Post.thnN ?_)
    refine T.seq ?_
    refine T.region ?_
    refine R.mvE rfl (by conv => lhs; whnf) ?_
    refine R.mkf (cs := [_]) rfl rfl ?_
    refine R.callv rfl rfl rfl (indexF_c _ _ _ _ (ownP fo) (g36.mono s43) (fun H2 h2 x => first1_c H2 b8 _ fo x (h2 _ _ (s43 _ _ (s36 _ _ h8))) (f32.mono (s8.trans (s36.trans (s43.trans h2)))))) ?_
    refine R.asE rfl (by conv => lhs; whnf) ?_
    refine TL.nil (Post.thnN ?_)
    refine T.seq ?_
    refine T.seq ?_
    refine T.region ?_
    refine R.mvE rfl (by conv => lhs; whnf) ?_
    refine R.lss rfl rfl rfl ?_
    refine R.mvE rfl (by conv => lhs; whnf) ?_
    refine R.eql rfl rfl rfl ?_
    refine R.neqB Try.underlying4 rfl rfl rfl ?_
    refine R.mvE rfl (by conv => lhs; whnf) ?_
    refine TL.set 65 (.bool false) (congrArg Value.bool (by rw [hOa]; exact fp1 hc a (ownP fo))) ?_
    refine R.mvE rfl (by conv => lhs; whnf) ?_
    refine R.geq rfl rfl rfl ?_
    refine R.mvE rfl (by conv => lhs; whnf) ?_
    refine TL.gsplitD 68 rfl (fun g68 => ?_) (fun g68 => ?_)
    · obtain ⟨w, hfw, hiw, hww, hwn⟩ := fp2 hc a (ownP fo) (by rw [← hOa]; exact g68)
      rw [← hOa] at hiw
      have hpe : firstR fx a (fun x => decide (x = (firstR fx a (ownP fo)).1)) = (lastI w, w, 0) := by
        rw [hfw]
        show firstR fx a (fun x => decide (x = lastI w)) = _
        rw [parts_e hc (by rw [hww]; exact hwn), hww]
      refine R.mvE rfl (by conv => lhs; whnf) ?_
      refine R.neq rfl rfl rfl ?_
      refine R.mvE rfl (by conv => lhs; whnf) ?_
      refine TL.set 71 (.bool false) (congrArg Value.bool (by simp [hfw])) ?_
      refine R.mvE rfl (by conv => lhs; whnf) ?_
      refine R.mvE rfl (by conv => lhs; whnf) ?_
      obtain ⟨b74, o74, i74, e74⟩ := (g36.mono s43).elem (hiw)
      refine R.ixp Try.underlying23 Try.sizeOf3 rfl rfl rfl g68 i74 ?_
      refine R.ldC Try.isAgg3 rfl rfl (e74).int ?_
      refine R.mvE rfl (by conv => lhs; whnf) ?_
      refine R.neq rfl rfl rfl ?_
      refine R.pkFE rfl rfl (by conv => lhs; whnf) ?_
      refine R.pkTE rfl rfl (by conv => lhs; whnf) ?_
      refine R.pkFE rfl rfl (by conv => lhs; whnf) ?_
      refine TL.nil (Post.thnN ?_)
      refine T.set 80 (.bool false) (congrArg Value.bool (by simp [hfw])) ?_
      refine T.condN rfl ?_
      refine T.skip (Post.thnN ?_)
      refine T.seq ?_
      refine T.seq ?_
      refine T.region ?_
      refine R.mvE rfl (by conv => lhs; whnf) ?_
      refine R.geq rfl rfl rfl ?_
      refine TL.nil (Post.thnN ?_)
      refine T.set 82 (.bool true) (congrArg Value.bool (decide_eq_true g68)) ?_
      refine T.condY rfl ?_
      refine T.seq ?_
      refine T.region ?_
      refine R.mvE rfl (by conv => lhs; whnf) ?_
      refine R.mvE rfl (by conv => lhs; whnf) ?_
      refine R.mvE rfl (by conv => lhs; whnf) ?_
      refine R.callp rfl rfl rfl (way_c _ _ fx a (f30.mono (s32.trans (sF32.trans (s8.trans (s36.trans s43))))) hfl _) ?_
      intro v87 H87 s87 q87
      obtain ⟨w87, rfl, g87⟩ := q87
      refine R.mvE rfl (by conv => lhs; whnf) ?_
      refine R.ext rfl rfl rfl ?_
      refine R.ext rfl rfl rfl ?_
      refine R.asE rfl (by conv => lhs; whnf) ?_
      refine R.asE rfl (by conv => lhs; whnf) ?_
      refine TL.nil (Post.thnN ?_)
      refine T.seq ?_
      refine T.region ?_
      refine R.mvE rfl (by conv => lhs; whnf) ?_
      refine R.neq rfl rfl rfl ?_
      refine R.mvE rfl (by conv => lhs; whnf) ?_
      refine TL.set 92 (.bool false) (congrArg Value.bool (by simp [hpe])) ?_
      refine R.mvE rfl (by conv => lhs; whnf) ?_
      refine R.mvE rfl (by conv => lhs; whnf) ?_
      refine R.callv rfl rfl rfl (equalI23_c _ _ _ _ _ g87 (g43.mono s87)) ?_
      refine R.not rfl rfl ?_
      refine R.pkFE rfl rfl (by conv => lhs; whnf) ?_
      refine TL.nil (Post.thnN ?_)
      refine T.set 97 (.bool false) (congrArg Value.bool (by rw [hpe, hfw]; simp)) ?_
      refine T.condN rfl ?_
      refine T.skip (Post.thnN ?_)
      refine T.seq ?_
      refine T.region ?_
      refine R.mkm rfl ?_
      intro b98
      refine R.asE rfl (by conv => lhs; whnf) ?_
      refine TL.nil (Post.thnN ?_)
      refine T.seq ?_
      refine T.region ?_
      refine R.asE rfl (by conv => lhs; whnf) ?_
      refine TL.nil (Post.thnN ?_)
      refine T.seq ?_
      refine T.seq ?_
      refine T.region ?_
      refine R.mvE rfl (by conv => lhs; whnf) ?_
      refine R.len Try.underlying23 rfl rfl ?_
      refine R.mvE rfl (by conv => lhs; whnf) ?_
      refine TL.nil (Post.thnN ?_)
      refine T.block ?_
      refine T.loop (ι := Nat × Nat × Array MapEntry × Nat × MapL) (fun ⟨k, last, es, ck, m⟩ H' L' ds' => k ≤ O.length ∧ ds' = [] ∧ L' = [[(b98, .map es ck)]] ∧ MapIs .i64 es m ∧ MetIs m (O.take k) ∧ (last = 0 ∨ ∃ v, O[k - 1]? = some v ∧ last = (wayR fx a v).length)) (fun ⟨k, last, es, ck, m⟩ => [(1, .int .i64 a), (7, .slice AF30 fx.length pF30), (9, .slice A36 O.length k36), (17, .map (some b98)), (18, .int .i64 last), (99, .slice A36 O.length k36), (100, .int .i64 O.length), (101, .int .i64 k)]) (fun ⟨k, last, es, ck, m⟩ => O.length - k) ((0, 0, #[], 0, [])) ?_ ?_ ?_
      · exact ⟨Nat.zero_le _, rfl, rfl, mapIs_nil _, MetIs.nil, .inl rfl⟩
      · exact ⟨rfl, rfl, rfl, rfl, rfl, rfl, rfl, rfl, trivial⟩
      · intro ⟨k, last, es, ck, m⟩ σ0 H_0 L_0 ds_0 s_0 hI_0
        obtain ⟨hk, rfl, rfl, hm, hM, hla⟩ := hI_0
        refine T.seq ?_
        refine T.region ?_
        refine R.lss rfl rfl rfl ?_
        refine TL.nil (Post.thnN ?_)
        refine T.seq ?_
        refine T.condD rfl (fun c102 => ?_) (fun c102 => ?_)
        · have hlt : k < O.length := by omega
          obtain ⟨v, hv⟩ := getk hlt
          have hvw : wayR fx a v ≠ [] := asked_way (by rw [← hOa]; exact List.mem_of_getElem? hv)
          have hpv := parts_e hc hvw
          refine T.skip (Post.thnN ?_)
          refine T.seq ?_
          refine T.block ?_
          refine T.seq ?_
          refine T.region ?_
          obtain ⟨b103, o103, i103, e103⟩ := ((g36.mono ((s43.trans s87).trans s_0))).elem (hv)
          refine R.ixp Try.underlying23 Try.sizeOf3 rfl rfl rfl (by omega) i103 ?_
          refine R.ldC Try.isAgg3 rfl rfl (e103).int ?_
          refine R.asE rfl (by conv => lhs; whnf) ?_
          refine TL.nil (Post.thnN ?_)
          refine T.seq ?_
          refine T.region ?_
          refine R.mvE rfl (by conv => lhs; whnf) ?_
          refine R.mvE rfl (by conv => lhs; whnf) ?_
          refine R.mvE rfl (by conv => lhs; whnf) ?_
          refine R.callp rfl rfl rfl (way_c _ _ fx a (f30.mono (s32.trans (sF32.trans (s8.trans ((s36.trans (s43.trans s87)).trans s_0))))) hfl v) ?_
          intro v109 H109 s109 q109
          obtain ⟨w109, rfl, g109⟩ := q109
          rw [hpv] at g109
          obtain ⟨A109, k109, rfl, m109, n109, g109⟩ := g109.shape
          refine R.mvE rfl (by conv => lhs; whnf) ?_
          refine R.ext rfl rfl rfl ?_
          refine R.ext rfl rfl rfl ?_
          refine R.asE rfl (by conv => lhs; whnf) ?_
          refine R.asE rfl (by conv => lhs; whnf) ?_
          refine TL.nil (Post.thnN ?_)
          refine T.seq ?_
          refine T.seq ?_
          refine T.region ?_
          refine R.mvE rfl (by conv => lhs; whnf) ?_
          refine R.neq rfl rfl rfl ?_
          refine R.mvE rfl (by conv => lhs; whnf) ?_
          refine TL.set 114 (.bool false) (congrArg Value.bool (by simp [hpv])) ?_
          refine R.mvE rfl (by conv => lhs; whnf) ?_
          refine R.mvE rfl (by conv => lhs; whnf) ?_
          refine R.lku Try.underlying51 Try.underlying3 Try.zeroValue4 rfl rfl rfl .hd hm ?_
          refine TL.set 117 (.bool (decide (v ∈ O.take k))) (hM v) ?_
          refine R.pkFE rfl rfl (by conv => lhs; whnf) ?_
          refine R.mvE rfl (by conv => lhs; whnf) ?_
          refine TL.set 119 (.bool false) (congrArg Value.bool (decide_eq_false (not_take (by rw [hOa]; exact ask_nodup _ _) hv))) ?_
          refine R.mvE rfl (by conv => lhs; whnf) ?_
          refine R.len Try.underlying23 rfl rfl ?_
          refine R.mvE rfl (by conv => lhs; whnf) ?_
          refine R.lss rfl rfl rfl ?_
          refine R.pkFE rfl rfl (by conv => lhs; whnf) ?_
          refine TL.nil (Post.thnN ?_)
          refine T.set 124 (.bool false) (congrArg Value.bool (decide_eq_false (not_short (by rw [← hOa]; exact hla) (by rw [← hOa]; exact hv)))) ?_
          refine T.condN rfl ?_
          refine T.skip (Post.thnN ?_)
          refine T.region ?_
          refine R.mvE rfl (by conv => lhs; whnf) ?_
          refine R.mvE rfl (by conv => lhs; whnf) ?_
          refine R.mvE rfl (by conv => lhs; whnf) ?_
          refine R.len Try.underlying23 rfl rfl ?_
          refine R.mup Try.underlying51 Try.underlying3 rfl rfl rfl rfl .hd hm ?_
          intro es125 ck125 i125
          refine R.asE rfl (by conv => lhs; whnf) ?_
          refine TL.nil (Post.blkN ?_)
          refine id (Post.thnN ?_)
          refine T.region ?_
          refine R.addI rfl rfl rfl (by omega) ?_
          refine R.mvE rfl (by conv => lhs; whnf) ?_
          refine TL.nil (Post.thnN ?_)
          -- round's end, way nyy
          exact ⟨(k + 1, (wayR fx a v).length, es125, ck125, mput m v (.bool true)), s_0.trans s109, ⟨by show k + 1 ≤ _; omega, rfl, rfl, i125, by rw [take_snoc _ _ _ hv]; exact hM.put v, .inr ⟨v, by rw [Nat.add_sub_cancel]; exact hv, rfl⟩⟩, by show O.length - (k + 1) < O.length - k; omega, ⟨rfl, rfl, rfl, rfl, rfl, rfl, rfl, rfl, trivial⟩⟩
        · have hkx : k = O.length := by omega
          rw [hkx, List.take_length] at hM
          refine T.exit (Post.thnE (Post.thnE (Post.blkX ?_)))
          refine id (Post.thnN ?_)
          refine T.seq ?_
          refine T.seq ?_
          refine T.region ?_
          refine R.mvE rfl (by conv => lhs; whnf) ?_
          refine R.mvE rfl (by conv => lhs; whnf) ?_
          refine R.callp rfl rfl rfl (cwaves_c _ _ fx a (f30.mono (s32.trans (sF32.trans (s8.trans ((s36.trans (s43.trans s87)).trans s_0))))) hfl false) ?_
          intro v132 H132 s132 q132
          obtain ⟨A132, k132, rfl, m132, n132, g132⟩ := q132.shape
          refine R.len Try.underlying52 rfl rfl ?_
          refine R.mvE rfl (by conv => lhs; whnf) ?_
          refine TL.nil (Post.thnN ?_)
          refine T.block ?_
          refine T.loop (ι := Nat) (fun q H' L' ds' => q ≤ (wavesL false fx a).length ∧ ds' = [] ∧ L' = [[(b98, .map es ck)]]) (fun q => [(1, .int .i64 a), (7, .slice AF30 fx.length pF30), (9, .slice A36 O.length k36), (17, .map (some b98)), (132, .slice A132 (wavesL false fx a).length k132), (133, .int .i64 (wavesL false fx a).length), (134, .int .i64 q)]) (fun q => (wavesL false fx a).length - q) (0) ?_ ?_ ?_
          · exact ⟨Nat.zero_le _, rfl, rfl⟩
          · exact ⟨rfl, rfl, rfl, rfl, rfl, rfl, rfl, trivial⟩
          · intro q σ1 H_1 L_1 ds_1 s_1 hI_1
            obtain ⟨hq, rfl, rfl⟩ := hI_1
            refine T.seq ?_
            refine T.region ?_
            refine R.lss rfl rfl rfl ?_
            refine TL.nil (Post.thnN ?_)
            refine T.seq ?_
            refine T.condD rfl (fun c135 => ?_) (fun c135 => ?_)
            · have hlt : q < (wavesL false fx a).length := by omega
              obtain ⟨w2, hy⟩ := getk hlt
              refine T.skip (Post.thnN ?_)
              refine T.seq ?_
              refine T.block ?_
              refine T.seq ?_
              refine T.region ?_
              obtain ⟨b136, o136, i136, e136⟩ := (g132.mono s_1).elem (hy)
              refine R.ixp Try.underlying52 Try.sizeOf23 rfl rfl rfl (by omega) i136 ?_
              obtain ⟨v137, k137, r137⟩ := (e136).sl
              obtain ⟨A137, c137, rfl, m137, n137, r137⟩ := r137.shape
              refine R.ldC Try.isAgg23 rfl rfl k137 ?_
              refine R.asE rfl (by conv => lhs; whnf) ?_
              refine TL.nil (Post.thnN ?_)
              refine T.seq ?_
              refine T.region ?_
              refine R.mvE rfl (by conv => lhs; whnf) ?_
              refine R.len Try.underlying23 rfl rfl ?_
              refine R.mvE rfl (by conv => lhs; whnf) ?_
              refine TL.nil (Post.thnN ?_)
              refine T.block ?_
              refine T.loop (ι := Nat) (fun j H' L' ds' => j ≤ w2.length ∧ ds' = [] ∧ L' = [[(b98, .map es ck)]]) (fun j => [(1, .int .i64 a), (7, .slice AF30 fx.length pF30), (9, .slice A36 O.length k36), (17, .map (some b98)), (132, .slice A132 (wavesL false fx a).length k132), (133, .int .i64 (wavesL false fx a).length), (134, .int .i64 q), (138, .slice A137 w2.length c137), (139, .int .i64 w2.length), (140, .int .i64 j)]) (fun j => w2.length - j) (0) ?_ ?_ ?_
              · exact ⟨Nat.zero_le _, rfl, rfl⟩
              · exact ⟨rfl, rfl, rfl, rfl, rfl, rfl, rfl, rfl, rfl, rfl, trivial⟩
              · intro j σ2 H_2 L_2 ds_2 s_2 hI_2
                obtain ⟨hj, rfl, rfl⟩ := hI_2
                refine T.seq ?_
                refine T.region ?_
                refine R.lss rfl rfl rfl ?_
                refine TL.nil (Post.thnN ?_)
                refine T.seq ?_
                refine T.condD rfl (fun c141 => ?_) (fun c141 => ?_)
                · have hlt2 : j < w2.length := by omega
                  obtain ⟨z, hz⟩ := getk hlt2
                  have hzO : z ∈ O := by rw [hOa]; exact wave_asked hy (List.mem_of_getElem? hz)
                  refine T.skip (Post.thnN ?_)
                  refine T.seq ?_
                  refine T.block ?_
                  refine T.seq ?_
                  refine T.region ?_
                  obtain ⟨b142, o142, i142, e142⟩ := (r137.mono s_2).elem (hz)
                  refine R.ixp Try.underlying23 Try.sizeOf3 rfl rfl rfl (by omega) i142 ?_
                  refine R.ldC Try.isAgg3 rfl rfl (e142).int ?_
                  refine R.asE rfl (by conv => lhs; whnf) ?_
                  refine TL.nil (Post.thnN ?_)
                  refine T.seq ?_
                  refine T.region ?_
                  refine R.mvE rfl (by conv => lhs; whnf) ?_
                  refine R.mvE rfl (by conv => lhs; whnf) ?_
                  refine R.lku Try.underlying51 Try.underlying3 Try.zeroValue4 rfl rfl rfl .hd hm ?_
                  refine TL.set 146 (.bool (decide (z ∈ O))) (hM z) ?_
                  refine R.notD rfl rfl ?_
                  refine TL.nil (Post.thnN ?_)
                  refine T.set 147 (.bool false) (congrArg Value.bool (by simp [hzO])) ?_
                  refine T.condN rfl ?_
                  refine T.skip (Post.blkN ?_)
                  refine id (Post.thnN ?_)
                  refine T.region ?_
                  refine R.addI rfl rfl rfl (by omega) ?_
                  refine R.mvE rfl (by conv => lhs; whnf) ?_
                  refine TL.nil (Post.thnN ?_)
                  -- round's end, way nynyy
                  exact ⟨j + 1, s_2, ⟨by omega, rfl, rfl⟩, by omega, ⟨rfl, rfl, rfl, rfl, rfl, rfl, rfl, rfl, rfl, rfl, trivial⟩⟩
                · refine T.exit (Post.thnE (Post.thnE (Post.blkX ?_)))
                  refine id (Post.blkN ?_)
                  refine id (Post.thnN ?_)
                  refine T.region ?_
                  refine R.addI rfl rfl rfl (by omega) ?_
                  refine R.mvE rfl (by conv => lhs; whnf) ?_
                  refine TL.nil (Post.thnN ?_)
                  -- round's end, way nynyn
                  exact ⟨q + 1, s_1.trans s_2, ⟨by omega, rfl, rfl⟩, by omega, ⟨rfl, rfl, rfl, rfl, rfl, rfl, rfl, trivial⟩⟩
            · refine T.exit (Post.thnE (Post.thnE (Post.blkX ?_)))
              refine id (Post.thnN ?_)
              refine T.seq ?_
              refine T.region ?_
              refine R.mvE rfl (by conv => lhs; whnf) ?_
              obtain ⟨b151, o151, i151, e151⟩ := ((g36.mono ((s43.trans s87).trans (s_0.trans (s132.trans s_1))))).elem ((show O[0]? = some a by rw [hOa]; exact ask_first fx a))
              refine R.ixp Try.underlying23 Try.sizeOf3 rfl rfl rfl (by omega) i151 ?_
              refine R.ldC Try.isAgg3 rfl rfl (e151).int ?_
              refine R.mvE rfl (by conv => lhs; whnf) ?_
              refine R.eql rfl rfl rfl ?_
              refine R.asE rfl (by conv => lhs; whnf) ?_
              refine TL.nil (Post.thnN ?_)
              refine T.ret ?_
              -- way nynn
              exact fin1 rfl rfl ⟨rfl, congrArg Value.bool (decide_eq_true rfl)⟩
    · refine TL.off rfl rfl rfl ?_
      refine TL.off rfl rfl rfl ?_
      refine TL.off rfl rfl rfl ?_
      refine TL.offU rfl rfl ?_
      refine TL.offU rfl rfl ?_
      refine TL.offU rfl rfl ?_
      refine TL.offU rfl rfl ?_
      refine TL.offU rfl rfl ?_
      refine TL.offU rfl rfl ?_
      refine TL.off rfl rfl rfl ?_
      refine R.pkFE rfl rfl (by conv => lhs; whnf) ?_
      refine R.pkFE rfl rfl (by conv => lhs; whnf) ?_
      refine TL.nil (Post.thnN ?_)
      refine T.condN rfl ?_
      refine T.skip (Post.thnN ?_)
      refine T.seq ?_
      refine T.seq ?_
      refine T.region ?_
      refine R.mvE rfl (by conv => lhs; whnf) ?_
      refine R.geq rfl rfl rfl ?_
      refine TL.nil (Post.thnN ?_)
      refine T.set 82 (.bool false) (congrArg Value.bool (decide_eq_false g68)) ?_
      refine T.condN rfl ?_
      refine T.skip (Post.thnN ?_)
      refine T.seq ?_
      refine T.region ?_
      refine R.mkm rfl ?_
      intro b98
      refine R.asE rfl (by conv => lhs; whnf) ?_
      refine TL.nil (Post.thnN ?_)
      refine T.seq ?_
      refine T.region ?_
      refine R.asE rfl (by conv => lhs; whnf) ?_
      refine TL.nil (Post.thnN ?_)
      refine T.seq ?_
      refine T.seq ?_
      refine T.region ?_
      refine R.mvE rfl (by conv => lhs; whnf) ?_
      refine R.len Try.underlying23 rfl rfl ?_
      refine R.mvE rfl (by conv => lhs; whnf) ?_
      refine TL.nil (Post.thnN ?_)
      refine T.block ?_
      refine T.loop (ι := Nat × Nat × Array MapEntry × Nat × MapL) (fun ⟨k, last, es, ck, m⟩ H' L' ds' => k ≤ O.length ∧ ds' = [] ∧ L' = [[(b98, .map es ck)]] ∧ MapIs .i64 es m ∧ MetIs m (O.take k) ∧ (last = 0 ∨ ∃ v, O[k - 1]? = some v ∧ last = (wayR fx a v).length)) (fun ⟨k, last, es, ck, m⟩ => [(1, .int .i64 a), (7, .slice AF30 fx.length pF30), (9, .slice A36 O.length k36), (17, .map (some b98)), (18, .int .i64 last), (99, .slice A36 O.length k36), (100, .int .i64 O.length), (101, .int .i64 k)]) (fun ⟨k, last, es, ck, m⟩ => O.length - k) ((0, 0, #[], 0, [])) ?_ ?_ ?_
      · exact ⟨Nat.zero_le _, rfl, rfl, mapIs_nil _, MetIs.nil, .inl rfl⟩
      · exact ⟨rfl, rfl, rfl, rfl, rfl, rfl, rfl, rfl, trivial⟩
      · intro ⟨k, last, es, ck, m⟩ σ3 H_3 L_3 ds_3 s_3 hI_3
        obtain ⟨hk, rfl, rfl, hm, hM, hla⟩ := hI_3
        refine T.seq ?_
        refine T.region ?_
        refine R.lss rfl rfl rfl ?_
        refine TL.nil (Post.thnN ?_)
        refine T.seq ?_
        refine T.condD rfl (fun c102 => ?_) (fun c102 => ?_)
        · have hlt : k < O.length := by omega
          obtain ⟨v, hv⟩ := getk hlt
          have hvw : wayR fx a v ≠ [] := asked_way (by rw [← hOa]; exact List.mem_of_getElem? hv)
          have hpv := parts_e hc hvw
          refine T.skip (Post.thnN ?_)
          refine T.seq ?_
          refine T.block ?_
          refine T.seq ?_
          refine T.region ?_
          obtain ⟨b103, o103, i103, e103⟩ := ((g36.mono ((s43).trans s_3))).elem (hv)
          refine R.ixp Try.underlying23 Try.sizeOf3 rfl rfl rfl (by omega) i103 ?_
          refine R.ldC Try.isAgg3 rfl rfl (e103).int ?_
          refine R.asE rfl (by conv => lhs; whnf) ?_
          refine TL.nil (Post.thnN ?_)
          refine T.seq ?_
          refine T.region ?_
          refine R.mvE rfl (by conv => lhs; whnf) ?_
          refine R.mvE rfl (by conv => lhs; whnf) ?_
          refine R.mvE rfl (by conv => lhs; whnf) ?_
          refine R.callp rfl rfl rfl (way_c _ _ fx a (f30.mono (s32.trans (sF32.trans (s8.trans ((s36.trans s43).trans s_3))))) hfl v) ?_
          intro v109 H109 s109 q109
          obtain ⟨w109, rfl, g109⟩ := q109
          rw [hpv] at g109
          obtain ⟨A109, k109, rfl, m109, n109, g109⟩ := g109.shape
          refine R.mvE rfl (by conv => lhs; whnf) ?_
          refine R.ext rfl rfl rfl ?_
          refine R.ext rfl rfl rfl ?_
          refine R.asE rfl (by conv => lhs; whnf) ?_
          refine R.asE rfl (by conv => lhs; whnf) ?_
          refine TL.nil (Post.thnN ?_)
          refine T.seq ?_
          refine T.seq ?_
          refine T.region ?_
          refine R.mvE rfl (by conv => lhs; whnf) ?_
          refine R.neq rfl rfl rfl ?_
          refine R.mvE rfl (by conv => lhs; whnf) ?_
          refine TL.set 114 (.bool false) (congrArg Value.bool (by simp [hpv])) ?_
          refine R.mvE rfl (by conv => lhs; whnf) ?_
          refine R.mvE rfl (by conv => lhs; whnf) ?_
          refine R.lku Try.underlying51 Try.underlying3 Try.zeroValue4 rfl rfl rfl .hd hm ?_
          refine TL.set 117 (.bool (decide (v ∈ O.take k))) (hM v) ?_
          refine R.pkFE rfl rfl (by conv => lhs; whnf) ?_
          refine R.mvE rfl (by conv => lhs; whnf) ?_
          refine TL.set 119 (.bool false) (congrArg Value.bool (decide_eq_false (not_take (by rw [hOa]; exact ask_nodup _ _) hv))) ?_
          refine R.mvE rfl (by conv => lhs; whnf) ?_
          refine R.len Try.underlying23 rfl rfl ?_
          refine R.mvE rfl (by conv => lhs; whnf) ?_
          refine R.lss rfl rfl rfl ?_
          refine R.pkFE rfl rfl (by conv => lhs; whnf) ?_
          refine TL.nil (Post.thnN ?_)
          refine T.set 124 (.bool false) (congrArg Value.bool (decide_eq_false (not_short (by rw [← hOa]; exact hla) (by rw [← hOa]; exact hv)))) ?_
          refine T.condN rfl ?_
          refine T.skip (Post.thnN ?_)
          refine T.region ?_
          refine R.mvE rfl (by conv => lhs; whnf) ?_
          refine R.mvE rfl (by conv => lhs; whnf) ?_
          refine R.mvE rfl (by conv => lhs; whnf) ?_
          refine R.len Try.underlying23 rfl rfl ?_
          refine R.mup Try.underlying51 Try.underlying3 rfl rfl rfl rfl .hd hm ?_
          intro es125 ck125 i125
          refine R.asE rfl (by conv => lhs; whnf) ?_
          refine TL.nil (Post.blkN ?_)
          refine id (Post.thnN ?_)
          refine T.region ?_
          refine R.addI rfl rfl rfl (by omega) ?_
          refine R.mvE rfl (by conv => lhs; whnf) ?_
          refine TL.nil (Post.thnN ?_)
          -- round's end, way nny
          exact ⟨(k + 1, (wayR fx a v).length, es125, ck125, mput m v (.bool true)), s_3.trans s109, ⟨by show k + 1 ≤ _; omega, rfl, rfl, i125, by rw [take_snoc _ _ _ hv]; exact hM.put v, .inr ⟨v, by rw [Nat.add_sub_cancel]; exact hv, rfl⟩⟩, by show O.length - (k + 1) < O.length - k; omega, ⟨rfl, rfl, rfl, rfl, rfl, rfl, rfl, rfl, trivial⟩⟩
        · have hkx : k = O.length := by omega
          rw [hkx, List.take_length] at hM
          refine T.exit (Post.thnE (Post.thnE (Post.blkX ?_)))
          refine id (Post.thnN ?_)
          refine T.seq ?_
          refine T.seq ?_
          refine T.region ?_
          refine R.mvE rfl (by conv => lhs; whnf) ?_
          refine R.mvE rfl (by conv => lhs; whnf) ?_
          refine R.callp rfl rfl rfl (cwaves_c _ _ fx a (f30.mono (s32.trans (sF32.trans (s8.trans ((s36.trans s43).trans s_3))))) hfl false) ?_
          intro v132 H132 s132 q132
          obtain ⟨A132, k132, rfl, m132, n132, g132⟩ := q132.shape
          refine R.len Try.underlying52 rfl rfl ?_
          refine R.mvE rfl (by conv => lhs; whnf) ?_
          refine TL.nil (Post.thnN ?_)
          refine T.block ?_
          refine T.loop (ι := Nat) (fun q H' L' ds' => q ≤ (wavesL false fx a).length ∧ ds' = [] ∧ L' = [[(b98, .map es ck)]]) (fun q => [(1, .int .i64 a), (7, .slice AF30 fx.length pF30), (9, .slice A36 O.length k36), (17, .map (some b98)), (132, .slice A132 (wavesL false fx a).length k132), (133, .int .i64 (wavesL false fx a).length), (134, .int .i64 q)]) (fun q => (wavesL false fx a).length - q) (0) ?_ ?_ ?_
          · exact ⟨Nat.zero_le _, rfl, rfl⟩
          · exact ⟨rfl, rfl, rfl, rfl, rfl, rfl, rfl, trivial⟩
          · intro q σ4 H_4 L_4 ds_4 s_4 hI_4
            obtain ⟨hq, rfl, rfl⟩ := hI_4
            refine T.seq ?_
            refine T.region ?_
            refine R.lss rfl rfl rfl ?_
            refine TL.nil (Post.thnN ?_)
            refine T.seq ?_
            refine T.condD rfl (fun c135 => ?_) (fun c135 => ?_)
            · have hlt : q < (wavesL false fx a).length := by omega
              obtain ⟨w2, hy⟩ := getk hlt
              refine T.skip (Post.thnN ?_)
              refine T.seq ?_
              refine T.block ?_
              refine T.seq ?_
              refine T.region ?_
              obtain ⟨b136, o136, i136, e136⟩ := (g132.mono s_4).elem (hy)
              refine R.ixp Try.underlying52 Try.sizeOf23 rfl rfl rfl (by omega) i136 ?_
              obtain ⟨v137, k137, r137⟩ := (e136).sl
              obtain ⟨A137, c137, rfl, m137, n137, r137⟩ := r137.shape
              refine R.ldC Try.isAgg23 rfl rfl k137 ?_
              refine R.asE rfl (by conv => lhs; whnf) ?_
              refine TL.nil (Post.thnN ?_)
              refine T.seq ?_
              refine T.region ?_
              refine R.mvE rfl (by conv => lhs; whnf) ?_
              refine R.len Try.underlying23 rfl rfl ?_
              refine R.mvE rfl (by conv => lhs; whnf) ?_
              refine TL.nil (Post.thnN ?_)
              refine T.block ?_
              refine T.loop (ι := Nat) (fun j H' L' ds' => j ≤ w2.length ∧ ds' = [] ∧ L' = [[(b98, .map es ck)]]) (fun j => [(1, .int .i64 a), (7, .slice AF30 fx.length pF30), (9, .slice A36 O.length k36), (17, .map (some b98)), (132, .slice A132 (wavesL false fx a).length k132), (133, .int .i64 (wavesL false fx a).length), (134, .int .i64 q), (138, .slice A137 w2.length c137), (139, .int .i64 w2.length), (140, .int .i64 j)]) (fun j => w2.length - j) (0) ?_ ?_ ?_
              · exact ⟨Nat.zero_le _, rfl, rfl⟩
              · exact ⟨rfl, rfl, rfl, rfl, rfl, rfl, rfl, rfl, rfl, rfl, trivial⟩
              · intro j σ5 H_5 L_5 ds_5 s_5 hI_5
                obtain ⟨hj, rfl, rfl⟩ := hI_5
                refine T.seq ?_
                refine T.region ?_
                refine R.lss rfl rfl rfl ?_
                refine TL.nil (Post.thnN ?_)
                refine T.seq ?_
                refine T.condD rfl (fun c141 => ?_) (fun c141 => ?_)
                · have hlt2 : j < w2.length := by omega
                  obtain ⟨z, hz⟩ := getk hlt2
                  have hzO : z ∈ O := by rw [hOa]; exact wave_asked hy (List.mem_of_getElem? hz)
                  refine T.skip (Post.thnN ?_)
                  refine T.seq ?_
                  refine T.block ?_
                  refine T.seq ?_
                  refine T.region ?_
                  obtain ⟨b142, o142, i142, e142⟩ := (r137.mono s_5).elem (hz)
                  refine R.ixp Try.underlying23 Try.sizeOf3 rfl rfl rfl (by omega) i142 ?_
                  refine R.ldC Try.isAgg3 rfl rfl (e142).int ?_
                  refine R.asE rfl (by conv => lhs; whnf) ?_
                  refine TL.nil (Post.thnN ?_)
                  refine T.seq ?_
                  refine T.region ?_
                  refine R.mvE rfl (by conv => lhs; whnf) ?_
                  refine R.mvE rfl (by conv => lhs; whnf) ?_
                  refine R.lku Try.underlying51 Try.underlying3 Try.zeroValue4 rfl rfl rfl .hd hm ?_
                  refine TL.set 146 (.bool (decide (z ∈ O))) (hM z) ?_
                  refine R.notD rfl rfl ?_
                  refine TL.nil (Post.thnN ?_)
                  refine T.set 147 (.bool false) (congrArg Value.bool (by simp [hzO])) ?_
                  refine T.condN rfl ?_
                  refine T.skip (Post.blkN ?_)
                  refine id (Post.thnN ?_)
                  refine T.region ?_
                  refine R.addI rfl rfl rfl (by omega) ?_
                  refine R.mvE rfl (by conv => lhs; whnf) ?_
                  refine TL.nil (Post.thnN ?_)
                  -- round's end, way nnnyy
                  exact ⟨j + 1, s_5, ⟨by omega, rfl, rfl⟩, by omega, ⟨rfl, rfl, rfl, rfl, rfl, rfl, rfl, rfl, rfl, rfl, trivial⟩⟩
                · refine T.exit (Post.thnE (Post.thnE (Post.blkX ?_)))
                  refine id (Post.blkN ?_)
                  refine id (Post.thnN ?_)
                  refine T.region ?_
                  refine R.addI rfl rfl rfl (by omega) ?_
                  refine R.mvE rfl (by conv => lhs; whnf) ?_
                  refine TL.nil (Post.thnN ?_)
                  -- round's end, way nnnyn
                  exact ⟨q + 1, s_4.trans s_5, ⟨by omega, rfl, rfl⟩, by omega, ⟨rfl, rfl, rfl, rfl, rfl, rfl, rfl, trivial⟩⟩
            · refine T.exit (Post.thnE (Post.thnE (Post.blkX ?_)))
              refine id (Post.thnN ?_)
              refine T.seq ?_
              refine T.region ?_
              refine R.mvE rfl (by conv => lhs; whnf) ?_
              obtain ⟨b151, o151, i151, e151⟩ := ((g36.mono ((s43).trans (s_3.trans (s132.trans s_4))))).elem ((show O[0]? = some a by rw [hOa]; exact ask_first fx a))
              refine R.ixp Try.underlying23 Try.sizeOf3 rfl rfl rfl (by omega) i151 ?_
              refine R.ldC Try.isAgg3 rfl rfl (e151).int ?_
              refine R.mvE rfl (by conv => lhs; whnf) ?_
              refine R.eql rfl rfl rfl ?_
              refine R.asE rfl (by conv => lhs; whnf) ?_
              refine TL.nil (Post.thnN ?_)
              refine T.ret ?_
              -- way nnnn
              exact fin1 rfl rfl ⟨rfl, congrArg Value.bool (decide_eq_true rfl)⟩

end Go.SX
