import Derived.Test.YtaaongcfeldcoaaDoorKQb
import Derived.Test.YtaaongcfeldcoaaDoorKQc
import Derived.Test.YtaaongcfeldcoaaDoorKQe
namespace Go.Proofs.YtaaongcfeldcoaaDoor
open Go.RowKit
set_option linter.unusedVariables false
set_option linter.unusedSimpArgs false
set_option maxRecDepth 100000
attribute [local go_sem] Nat.zero_add Nat.add_zero Nat.mul_one eq_self ne_eq not_true_eq_false not_false_eq_true decide_true decide_false decide_not Bool.false_eq_true List.filter_cons List.filter_nil true_and and_true beq_false beq_true Bool.not_true Bool.not_false Bool.and_true Bool.true_and Option.getD_some Option.getD_none imp_self implies_true Int.toNat_natCast List.cons_append List.nil_append List.map_cons List.map_nil List.length_cons List.length_nil List.getD_cons_zero List.getD_cons_succ List.drop_zero List.drop_succ_cons List.take_succ_cons List.take_zero
attribute [local go_sem] lowN lowQ lowM isAl appOwn unw appF isE isO stpO notIn St.bare evO evDO isEff stp St.get St.slot St.put List.lookup un unL ofVal gof nth pickV pkB_false pkB_true binV unV loadV idxV fldV partV buildV fillV lenV sliV appV appR rowsV winV V.parts V.okp V.sc Mem.look_cons Mem.look_nil V.cl V.clL AObj.clo fzAll exps St.fz Mem.fz V.fz V.fzL AObj.fz Option.isSome_some Option.isSome_none Bool.or_true Bool.true_or Bool.or_false Bool.false_or false_and and_false false_or or_false arT_112 arT_22 arT_23 arT_27 arT_28 arT_29 arT_33 arT_52 arT_57 arT_65 arT_76 arT_77 arT_84 arT_88 arT_9 arT_95 boolT_133 boolT_29 boolT_3 boolT_36 boolT_4 boolT_70 boolT_92 flatT_133 flatT_29 flatT_3 flatT_36 flatT_4 flatT_70 flatT_92 intT_121 intT_142 intT_144 intT_145 intT_3 intT_5 lay_110 lay_145 lay_22 lay_23 lay_25 lay_27 lay_28 lay_29 lay_3 lay_31 lay_33 lay_35 lay_4 lay_42 lay_51 lay_56 lay_57 lay_59 lay_70 lay_73 lay_77 lay_79 lay_81 lay_83 lay_84 lay_85 lay_88 lay_92 lay_94 lay_95 okF_10 okF_100 okF_101 okF_102 okF_103 okF_104 okF_105 okF_11 okF_12 okF_122 okF_123 okF_124 okF_125 okF_126 okF_127 okF_13 okF_14 okF_15 okF_16 okF_17 okF_18 okF_19 okF_20 okF_21 okF_22 okF_23 okF_24 okF_25 okF_26 okF_27 okF_28 okF_29 okF_3 okF_30 okF_31 okF_32 okF_33 okF_34 okF_35 okF_36 okF_37 okF_38 okF_39 okF_4 okF_40 okF_41 okF_42 okF_43 okF_44 okF_45 okF_46 okF_47 okF_48 okF_49 okF_5 okF_50 okF_51 okF_52 okF_53 okF_54 okF_55 okF_56 okF_57 okF_58 okF_59 okF_6 okF_60 okF_61 okF_62 okF_63 okF_64 okF_65 okF_66 okF_67 okF_68 okF_69 okF_7 okF_70 okF_71 okF_72 okF_73 okF_74 okF_75 okF_76 okF_77 okF_78 okF_79 okF_8 okF_80 okF_81 okF_82 okF_83 okF_84 okF_85 okF_86 okF_87 okF_88 okF_89 okF_9 okF_90 okF_91 okF_92 okF_93 okF_94 okF_95 okF_96 okF_97 okF_98 okF_99 plT_31 plT_35 plT_51 plT_56 plT_59 plT_70 plT_73 plT_90 plT_92 plT_95 slT_112 slT_22 slT_23 slT_27 slT_28 slT_29 slT_33 slT_52 slT_57 slT_65 slT_76 slT_77 slT_88 slT_95 stT_25_0 stT_25_1 stT_25_2 stT_25_3 stT_25_4 stT_31_0 stT_31_1 stT_31_2 stT_31_3 stT_35_0 stT_35_1 stT_35_2 stT_35_3 stT_51_0 stT_51_1 stT_56_0 stT_56_1 stT_56_2 stT_56_3 stT_59_0 stT_59_1 stT_59_2 stT_73_0 stT_73_3 stT_73_4 stT_73_5 stT_79_0 stT_79_1 stT_79_2 stT_83_0 stT_90_0 stT_90_1 stT_90_2 stT_90_3 strT_76 strT_77 strT_84 strT_9 zeroT_112 zeroT_145 zeroT_3 zeroT_31 zeroT_33 zeroT_35 zeroT_42 zeroT_51 zeroT_56 zeroT_57 zeroT_59 zeroT_70 zeroT_73 zeroT_79 zeroT_83 zeroT_90 zeroT_92 zeroT_95
attribute [local go_sem] List.getElem?_cons_zero List.getElem?_cons_succ List.zip_cons_cons List.zip_nil_left List.zip_nil_right Bool.false_and Bool.and_false List.length_append List.length_set List.length_replicate List.all_cons List.all_nil encI_length encI_getD encR_length encR_getD encRw encPg spl shp AObj.shp rowM isSt isRpS isRd csh AObj.csh forall_const imp_self
attribute [local go_sem] encHr encOf encSp encP2 encSps_length encOfs_length encP2s_length encSps_getD encOfs_getD encP2s_getD
attribute [local simp] encI_length encR_length cellsI_length encSps_length encOfs_length encP2s_length
section
attribute [local go_sem] List.replicate_zero encSol
set_option maxHeartbeats 16000000 in
theorem k5 (fr : Int) (rs : List P2) (os : List Of) (ap mu : Int) (hrl : rs.length ≤ maxLen) (hol : os.length ≤ maxLen) (hrk : ∀ p ∈ rs, okP2 p) (hok : ∀ o ∈ os, okO o) (hf : okI fr) (s mo wh : Int) (hs : okI s) (hmo : okI mo) (hwh : okI wh) : CallsA Tryd.prog 5 [.agg [.int .i64 fr, .sl 2 (encP2s rs), .sl 4 (encOfs os), .int .i64 ap, .int .i64 mu], .int .i64 s, .int .i64 mo, .int .i64 wh] (.bool true) := by
  have hmp := pickW_rng mo (n := 100) (by omega) (by omega) hmo
  have hwp := pickW_rng wh (n := 6) (by omega) (by omega) hwh
  have hto := fun (i : Nat) (hi : i < (madeH fr rs os ap mu).rooms.length) => made_to (os := os) (ap := ap) (mu := mu) hf hrk hi
  have hk9 := k9 fr rs os ap mu hrl hol hrk hf
  have hv := made_validH (ap := ap) (mu := mu) hf hrk hok
  generalize madeH fr rs os ap mu = M at hk9 hv hto
  have hV := validH_all hv
  have hr : M.rooms.length ≤ maxLen := by have := hV.rl; unfold maxLen; omega
  have ho : M.offers.length ≤ maxLen := by have := hV.ol; unfold maxLen; omega
  have ha : M.apart.length ≤ maxLen := by have := hV.al; unfold maxLen; omega
  have hm : M.must.length ≤ maxLen := by have := hV.ml; unfold maxLen; omega
  have holM := hV.ol
  have hrlM := hV.rl
  have hpv := progH_valid hV
  have hal := hV.al
  have hml := hV.ml
  have hto2 : ∀ i, i < M.rooms.length → (M.rooms.getD i sp0).to + pickW mo 100 ≤ 10000000 := fun i hi => by have := hto i hi; omega
  obtain ⟨ka, hka⟩ : ∃ ka : Nat, (M.apart.length = 0 ∧ ka = 0) ∨ (pickW wh (M.apart.length : Nat) = ka ∧ ka < M.apart.length) := by
    by_cases e : M.apart.length = 0
    · exact ⟨0, .inl ⟨e, rfl⟩⟩
    · have := pickW_rng wh (n := (M.apart.length : Nat)) (by omega) (by omega) hwh
      exact ⟨(pickW wh (M.apart.length : Nat)).toNat, .inr (by omega)⟩
  obtain ⟨kb, hkb⟩ : ∃ kb : Nat, (M.must.length = 0 ∧ kb = 0) ∨ (pickW wh (M.must.length : Nat) = kb ∧ kb < M.must.length) := by
    by_cases e : M.must.length = 0
    · exact ⟨0, .inl ⟨e, rfl⟩⟩
    · have := pickW_rng wh (n := (M.must.length : Nat)) (by omega) (by omega) hwh
      exact ⟨(pickW wh (M.must.length : Nat)).toNat, .inr (by omega)⟩
  have hwv := with_valid hv (n := pickW wh 6) (by omega)
  have hwl := with_less hv (n := pickW wh 6) (by omega)
  have hrl0 : 0 < M.rooms.length → 0 ≤ (M.rooms.getD (M.rooms.length - 1) sp0).to ∧ (M.rooms.getD (M.rooms.length - 1) sp0).to ≤ 4000 := fun h0 => by have h1 := hto (M.rooms.length - 1) (by omega); have h2 := hV.rm (M.rooms.length - 1) (by omega); omega
  have hwr1 : 0 < M.rooms.length → IntKind.i64.wrap ((M.rooms.length : Int) - 1) = ((M.rooms.length - 1 : Nat) : Int) := fun h0 => by rw [w64 (by omega)]; omega
  have hwr2 : 0 < M.rooms.length → IntKind.i64.wrap ((M.rooms.getD (M.rooms.length - 1) sp0).to + pickW mo 100) = (M.rooms.getD (M.rooms.length - 1) sp0).to + pickW mo 100 := fun h0 => by have := hrl0 h0; rw [w64 (by omega)]
  have hset : 0 < M.rooms.length → (encSps M.rooms).set (M.rooms.length - 1) [V.int .i64 (M.rooms.getD (M.rooms.length - 1) sp0).fr, V.int .i64 ((M.rooms.getD (M.rooms.length - 1) sp0).to + pickW mo 100)] = encSps (longL M.rooms (pickW mo 100)) := fun h0 => by
    rw [show longL M.rooms (pickW mo 100) = _ from if_pos h0, ← encSps_set]; rfl
  have hwa : 0 < M.apart.length → pickW wh (M.apart.length : Nat) = ka ∧ ka < M.apart.length := fun h0 => by omega
  have hwb : 0 < M.must.length → pickW wh (M.must.length : Nat) = kb ∧ kb < M.must.length := fun h0 => by omega
  have hwka : IntKind.i64.wrap ((ka : Int) + 1) = ((ka + 1 : Nat) : Int) := by rw [w64 (by omega)]; rfl
  have hwkb : IntKind.i64.wrap ((kb : Int) + 1) = ((kb + 1 : Nat) : Int) := by rw [w64 (by omega)]; rfl
  have hq := And.intro hv (And.intro rows3_len (And.intro hwr1 (And.intro hwr2 (And.intro hset (And.intro hwa (And.intro hwb (And.intro hwka (And.intro hwkb (And.intro encI_take' (And.intro encI_drop' (And.intro encP2s_take (And.intro encP2s_drop (And.intro encI_cut (encP2s_cut))))))))))))))
  refine callsA_of_tr Tryd.func5 rfl (Nat.le_of_ble_eq_true rfl) ?_
  simp only [Tryd.results5, envOf, Nat.reduceAdd]
  refine tr_seq fun K1 hK1 => ?_
  refine tr_region [1, 2, 3, 4] rfl rfl fun K hK => ?_
  iterate 2 refine evR_p ?_
  refine evR_e hK ?_; clear hK K
  refine hK1 _ ?_
  refine tr_seq fun K2 hK2 => ?_
  refine tr_seq fun K3 hK3 => ?_
  refine tr_region [1, 2, 3, 4, 25] rfl rfl fun K hK => ?_
  refine evR_c (hc := k8) (k := ?_)
  refine evR_p ?_
  refine evR_e hK ?_; clear hK K
  refine hK3 _ ?_
  refine tr_condB (fun ht1 => ?_) (fun ht1 => ?_)
  · skip
    (first | (exfalso; omega) | (exfalso; simp_all; done) | (exfalso; rcases ht7 with ⟨h1, h2⟩ | ⟨h1, h2⟩; (rw [hkm _ h1] at h2; cases h2); (obtain ⟨h3, h4⟩ := hkb h1; rcases h2 with h2 | h2; (rw [h3] at h2; cases h2); omega)) | skip)
    all_goals
      refine tr_seq fun K4 hK4 => ?_
      refine tr_region [8] rfl rfl fun K hK => ?_
      refine evR_p ?_
      refine evR_e hK ?_; clear hK K
      refine hK4 _ ?_
      refine tr_ret ?_
      (try simp only [thenE, inBlkE])
      simp (maxSteps := 4000000) (disch := first | assumption | omega | (simp only [go_sem, *]; done) | (simp only [go_sem, *]; omega)) only [postA, postO, resV1, fzAll, go_sem, hq, Int.reduceToNat, Nat.reduceBEq, Nat.reduceEqDiff, Nat.reduceAdd, Nat.reduceMul, Nat.reduceLeDiff, Nat.reduceLT, Nat.reduceSub, ↓reduceIte, reduceCtorEq]
      all_goals ((clear hq; revert hwl; generalize bestH (withH M (pickW wh 6)) = B9; intro hwl; cases hfl : B9.found with | false => simp [hfl] | true => (obtain ⟨e1, e2⟩ := hwl hfl; simp [hfl, e1, e2])))
  · skip
    (first | (exfalso; omega) | (exfalso; simp_all; done) | (exfalso; rcases ht7 with ⟨h1, h2⟩ | ⟨h1, h2⟩; (rw [hkm _ h1] at h2; cases h2); (obtain ⟨h3, h4⟩ := hkb h1; rcases h2 with h2 | h2; (rw [h3] at h2; cases h2); omega)) | skip)
    all_goals
      refine tr_skip ?_
      (try simp only [thenE, inBlkE])
      refine hK2 _ ?_
      refine tr_seq fun K5 hK5 => ?_
      refine tr_region [1, 2, 3, 9] rfl rfl fun K hK => ?_
      refine evR_p ?_
      refine evR_c (hc := hk9) (k := ?_)
      iterate 2 refine evR_p ?_
      refine evR_e hK ?_; clear hK K
      refine hK5 _ ?_
      refine tr_seq fun K6 hK6 => ?_
      refine tr_region [2, 3, 9, 10] rfl rfl fun K hK => ?_
      iterate 2 refine evR_p ?_
      refine evR_c (hc := (k11 M holM s)) (k := ?_)
      refine evR_p ?_
      refine evR_e hK ?_; clear hK K
      refine hK6 _ ?_
      refine tr_seq fun K7 hK7 => ?_
      refine tr_region [2, 3, 9, 10, 11, 12] rfl rfl fun K hK => ?_
      refine evR_p ?_
      refine evR_c (hc := (k10 M hv)) (k := ?_)
      iterate 6 refine evR_p ?_
      refine evR_e hK ?_; clear hK K
      refine hK7 _ ?_
      refine tr_seq fun K8 hK8 => ?_
      refine tr_seq fun K9 hK9 => ?_
      refine tr_region [2, 3, 9, 10, 11, 37] rfl rfl fun K hK => ?_
      iterate 2 refine evR_p ?_
      refine evR_e hK ?_; clear hK K
      refine hK9 _ ?_
      refine tr_condB (fun ht2 => ?_) (fun ht2 => ?_)
      · skip
        (first | (exfalso; omega) | (exfalso; simp_all; done) | (exfalso; rcases ht7 with ⟨h1, h2⟩ | ⟨h1, h2⟩; (rw [hkm _ h1] at h2; cases h2); (obtain ⟨h3, h4⟩ := hkb h1; rcases h2 with h2 | h2; (rw [h3] at h2; cases h2); omega)) | skip)
        all_goals
          refine tr_seq fun K10 hK10 => ?_
          refine tr_region [8] rfl rfl fun K hK => ?_
          refine evR_p ?_
          refine evR_e hK ?_; clear hK K
          refine hK10 _ ?_
          refine tr_ret ?_
          (try simp only [thenE, inBlkE])
          simp (maxSteps := 4000000) (disch := first | assumption | omega | (simp only [go_sem, *]; done) | (simp only [go_sem, *]; omega)) only [postA, postO, resV1, fzAll, go_sem, hq, Int.reduceToNat, Nat.reduceBEq, Nat.reduceEqDiff, Nat.reduceAdd, Nat.reduceMul, Nat.reduceLeDiff, Nat.reduceLT, Nat.reduceSub, ↓reduceIte, reduceCtorEq]
          all_goals ((clear hq; revert hwl; generalize bestH (withH M (pickW wh 6)) = B9; intro hwl; cases hfl : B9.found with | false => simp [hfl] | true => (obtain ⟨e1, e2⟩ := hwl hfl; simp [hfl, e1, e2])))
      · skip
        (first | (exfalso; omega) | (exfalso; simp_all; done) | (exfalso; rcases ht7 with ⟨h1, h2⟩ | ⟨h1, h2⟩; (rw [hkm _ h1] at h2; cases h2); (obtain ⟨h3, h4⟩ := hkb h1; rcases h2 with h2 | h2; (rw [h3] at h2; cases h2); omega)) | skip)
        all_goals
          refine tr_skip ?_
          (try simp only [thenE, inBlkE])
          refine hK8 _ ?_
          refine tr_seq fun K11 hK11 => ?_
          refine tr_region [2, 3, 9, 10, 11, 13] rfl rfl fun K hK => ?_
          iterate 3 refine evR_p ?_
          refine evR_e hK ?_; clear hK K
          refine hK11 _ ?_
          refine tr_seq fun K12 hK12 => ?_
          refine tr_region [2, 3, 9, 10, 11, 13] rfl rfl fun K hK => ?_
          refine evR_bo ?_
          iterate 5 refine evR_p ?_
          refine evR_e hK ?_; clear hK K
          refine hK12 _ ?_
          refine tr_seq fun K13 hK13 => ?_
          refine tr_seq fun K14 hK14 => ?_
          refine tr_region [2, 3, 9, 10, 11, 13, 47] rfl rfl fun K hK => ?_
          iterate 4 refine evR_p ?_
          refine evR_e hK ?_; clear hK K
          refine hK14 _ ?_
          refine tr_cut (fun σ => ∃ σ2, Wk Tryd.f5.ntmps σ σ2 ∧ σ2 = ⟨[(3, .int .i64 wh), (9, .ptr 1 0), (10, .int .i64 (choW M s)), (11, .ptr 2 0), (13, .ptr 3 0)], [(5, .row 51 2 (encSps (longL M.rooms (pickW mo 100)))), (3, .cells [.own 5, .sl 4 (encOfs M.offers), .sl 2 (encP2s M.apart), .sl 1 (encI M.must)]), (2, .cells (encSol (bestH M))), (1, .cells (encHr M)), (0, .cells [.int .i64 fr, .sl 2 (encP2s rs), .sl 4 (encOfs os), .int .i64 ap, .int .i64 mu])], 6⟩) (fun KJ3 hKJ3 => ?_) ?_
          · skip
            refine tr_condB (fun ht3 => ?_) (fun ht3 => ?_)
            · skip
              (first | (exfalso; omega) | (exfalso; simp_all; done) | (exfalso; rcases ht7 with ⟨h1, h2⟩ | ⟨h1, h2⟩; (rw [hkm _ h1] at h2; cases h2); (obtain ⟨h3, h4⟩ := hkb h1; rcases h2 with h2 | h2; (rw [h3] at h2; cases h2); omega)) | skip)
              all_goals
                refine tr_draw [] [3, 9, 10, 11, 13] mixed rfl (by kernel_rfl) rfl fun K hK => ?_
                iterate 16 refine evD_p ?_
                refine evD_c (hc := (c12 mo 100 (by omega))) (k := ?_)
                iterate 4 refine evD_p ?_
                refine evD_e hK ?_; clear hK K
                refine hKJ3 _ ?_
                refine ⟨_, Wk.norm _ [3, 9, 10, 11, 13], ?_⟩
                first | rfl | (rw [show longL M.rooms (pickW mo 100) = _ from if_neg (by omega)]; rfl)
            · skip
              (first | (exfalso; omega) | (exfalso; simp_all; done) | (exfalso; rcases ht7 with ⟨h1, h2⟩ | ⟨h1, h2⟩; (rw [hkm _ h1] at h2; cases h2); (obtain ⟨h3, h4⟩ := hkb h1; rcases h2 with h2 | h2; (rw [h3] at h2; cases h2); omega)) | skip)
              all_goals
                refine tr_skip ?_
                (try simp only [thenE, inBlkE])
                refine hKJ3 _ ?_
                refine ⟨_, Wk.norm _ [3, 9, 10, 11, 13], ?_⟩
                first | rfl | (rw [show longL M.rooms (pickW mo 100) = _ from if_neg (by omega)]; rfl)
          · rintro σ ⟨_, hwk3, rfl⟩
            refine hK13 _ ?_
            refine tr_seq fun K15 hK15 => ?_
            refine tr_wk hwk3 ?_
            try simp only [List.map_cons, List.map_nil, Nat.reduceEqDiff, ↓reduceIte, List.set_cons_zero, List.set_cons_succ, Nat.reduceAdd]
            refine tr_region [3, 9, 10, 11, 13, 14] rfl rfl fun K hK => ?_
            iterate 3 refine evR_p ?_
            refine evR_e hK ?_; clear hK K
            refine hK15 _ ?_
            refine tr_seq fun K16 hK16 => ?_
            refine tr_seq fun K17 hK17 => ?_
            refine tr_region [3, 9, 10, 11, 13, 14, 72] rfl rfl fun K hK => ?_
            iterate 4 refine evR_p ?_
            refine evR_e hK ?_; clear hK K
            refine hK17 _ ?_
            refine tr_cut (fun σ => ∃ σ2, Wk Tryd.f5.ntmps σ σ2 ∧ σ2 = ⟨[(3, .int .i64 wh), (9, .ptr 1 0), (10, .int .i64 (choW M s)), (11, .ptr 2 0), (13, .ptr 3 0), (14, .ptr 6 0)], [(6, .cells [.sl 2 (encSps M.rooms), .sl 4 (encOfs M.offers), .sl 2 (encP2s (cutL M.apart ka)), .sl 1 (encI M.must)]), (5, .row 51 2 (encSps (longL M.rooms (pickW mo 100)))), (3, .cells [.own 5, .sl 4 (encOfs M.offers), .sl 2 (encP2s M.apart), .sl 1 (encI M.must)]), (2, .cells (encSol (bestH M))), (1, .cells (encHr M)), (0, .cells [.int .i64 fr, .sl 2 (encP2s rs), .sl 4 (encOfs os), .int .i64 ap, .int .i64 mu])], 7⟩) (fun KJ4 hKJ4 => ?_) ?_
            · skip
              refine tr_condB (fun ht4 => ?_) (fun ht4 => ?_)
              · skip
                (first | (exfalso; omega) | (exfalso; simp_all; done) | (exfalso; rcases ht7 with ⟨h1, h2⟩ | ⟨h1, h2⟩; (rw [hkm _ h1] at h2; cases h2); (obtain ⟨h3, h4⟩ := hkb h1; rcases h2 with h2 | h2; (rw [h3] at h2; cases h2); omega)) | skip)
                all_goals
                  refine tr_seq fun K18 hK18 => ?_
                  refine tr_region [3, 9, 10, 11, 13, 14, 15] rfl rfl fun K hK => ?_
                  iterate 4 refine evR_p ?_
                  refine evR_c (hc := (c12 wh (M.apart.length : Nat) (by omega))) (k := ?_)
                  refine evR_p ?_
                  refine evR_e hK ?_; clear hK K
                  refine hK18 _ ?_
                  refine tr_draw [3000007] [3, 9, 10, 11, 13, 14] mixed rfl (by kernel_rfl) rfl fun K hK => ?_
                  refine evD_bo ?_
                  iterate 13 refine evD_p ?_
                  refine evD_e hK ?_; clear hK K
                  refine hKJ4 _ ?_
                  first
                    | exact ⟨_, Wk.trans (Wk.fz (id := 9) rfl rfl) (Wk.cut 7 (by simp [St.fz, Mem.fz, V.fz, V.fzL, AObj.fz, St.cut, St.cutOK, AObj.upto, V.upto, V.uptoL, cellsI_uptoL, encHr, encSol])), by simp [St.fz, Mem.fz, V.fz, V.fzL, AObj.fz, St.cut, St.cutOK, AObj.upto, V.upto, V.uptoL, cellsI_uptoL, encHr, encSol]⟩
                    | (refine ⟨_, Wk.norm _ [3, 9, 10, 11, 13, 14], ?_⟩; rw [cutL_none (l := M.apart) (by omega)]; rfl)
              · skip
                (first | (exfalso; omega) | (exfalso; simp_all; done) | (exfalso; rcases ht7 with ⟨h1, h2⟩ | ⟨h1, h2⟩; (rw [hkm _ h1] at h2; cases h2); (obtain ⟨h3, h4⟩ := hkb h1; rcases h2 with h2 | h2; (rw [h3] at h2; cases h2); omega)) | skip)
                all_goals
                  refine tr_skip ?_
                  (try simp only [thenE, inBlkE])
                  refine hKJ4 _ ?_
                  first
                    | exact ⟨_, Wk.trans (Wk.fz (id := 9) rfl rfl) (Wk.cut 7 (by simp [St.fz, Mem.fz, V.fz, V.fzL, AObj.fz, St.cut, St.cutOK, AObj.upto, V.upto, V.uptoL, cellsI_uptoL, encHr, encSol])), by simp [St.fz, Mem.fz, V.fz, V.fzL, AObj.fz, St.cut, St.cutOK, AObj.upto, V.upto, V.uptoL, cellsI_uptoL, encHr, encSol]⟩
                    | (refine ⟨_, Wk.norm _ [3, 9, 10, 11, 13, 14], ?_⟩; rw [cutL_none (l := M.apart) (by omega)]; rfl)
            · rintro σ ⟨_, hwk4, rfl⟩
              refine hK16 _ ?_
              refine tr_seq fun K19 hK19 => ?_
              refine tr_wk hwk4 ?_
              try simp only [List.map_cons, List.map_nil, Nat.reduceEqDiff, ↓reduceIte, List.set_cons_zero, List.set_cons_succ, Nat.reduceAdd]
              refine tr_region [3, 9, 10, 11, 13, 14, 16] rfl rfl fun K hK => ?_
              iterate 3 refine evR_p ?_
              refine evR_e hK ?_; clear hK K
              refine hK19 _ ?_
              refine tr_seq fun K20 hK20 => ?_
              refine tr_seq fun K21 hK21 => ?_
              refine tr_region [3, 9, 10, 11, 13, 14, 16, 95] rfl rfl fun K hK => ?_
              iterate 4 refine evR_p ?_
              refine evR_e hK ?_; clear hK K
              refine hK21 _ ?_
              refine tr_cut (fun σ => ∃ σ2, Wk Tryd.f5.ntmps σ σ2 ∧ σ2 = ⟨[(3, .int .i64 wh), (9, .ptr 1 0), (10, .int .i64 (choW M s)), (11, .ptr 2 0), (13, .ptr 3 0), (14, .ptr 6 0), (16, .ptr 7 0)], [(7, .cells [.sl 2 (encSps M.rooms), .sl 4 (encOfs M.offers), .sl 2 (encP2s M.apart), .sl 1 (encI (cutL M.must kb))]), (6, .cells [.sl 2 (encSps M.rooms), .sl 4 (encOfs M.offers), .sl 2 (encP2s (cutL M.apart ka)), .sl 1 (encI M.must)]), (5, .row 51 2 (encSps (longL M.rooms (pickW mo 100)))), (3, .cells [.own 5, .sl 4 (encOfs M.offers), .sl 2 (encP2s M.apart), .sl 1 (encI M.must)]), (2, .cells (encSol (bestH M))), (1, .cells (encHr M)), (0, .cells [.int .i64 fr, .sl 2 (encP2s rs), .sl 4 (encOfs os), .int .i64 ap, .int .i64 mu])], 8⟩) (fun KJ5 hKJ5 => ?_) ?_
              · skip
                refine tr_condB (fun ht5 => ?_) (fun ht5 => ?_)
                · skip
                  (first | (exfalso; omega) | (exfalso; simp_all; done) | (exfalso; rcases ht7 with ⟨h1, h2⟩ | ⟨h1, h2⟩; (rw [hkm _ h1] at h2; cases h2); (obtain ⟨h3, h4⟩ := hkb h1; rcases h2 with h2 | h2; (rw [h3] at h2; cases h2); omega)) | skip)
                  all_goals
                    refine tr_seq fun K22 hK22 => ?_
                    refine tr_region [3, 9, 10, 11, 13, 14, 16, 17] rfl rfl fun K hK => ?_
                    iterate 4 refine evR_p ?_
                    refine evR_c (hc := (c12 wh (M.must.length : Nat) (by omega))) (k := ?_)
                    refine evR_p ?_
                    refine evR_e hK ?_; clear hK K
                    refine hK22 _ ?_
                    refine tr_draw [3000008] [3, 9, 10, 11, 13, 14, 16] mixed rfl (by kernel_rfl) rfl fun K hK => ?_
                    refine evD_bo ?_
                    iterate 13 refine evD_p ?_
                    refine evD_e hK ?_; clear hK K
                    refine hKJ5 _ ?_
                    first
                      | exact ⟨_, Wk.trans (Wk.fz (id := 10) rfl rfl) (Wk.cut 8 (by simp [St.fz, Mem.fz, V.fz, V.fzL, AObj.fz, St.cut, St.cutOK, AObj.upto, V.upto, V.uptoL, cellsI_uptoL, encHr, encSol])), by simp [St.fz, Mem.fz, V.fz, V.fzL, AObj.fz, St.cut, St.cutOK, AObj.upto, V.upto, V.uptoL, cellsI_uptoL, encHr, encSol]⟩
                      | (refine ⟨_, Wk.norm _ [3, 9, 10, 11, 13, 14, 16], ?_⟩; rw [cutL_none (l := M.must) (by omega)]; rfl)
                · skip
                  (first | (exfalso; omega) | (exfalso; simp_all; done) | (exfalso; rcases ht7 with ⟨h1, h2⟩ | ⟨h1, h2⟩; (rw [hkm _ h1] at h2; cases h2); (obtain ⟨h3, h4⟩ := hkb h1; rcases h2 with h2 | h2; (rw [h3] at h2; cases h2); omega)) | skip)
                  all_goals
                    refine tr_skip ?_
                    (try simp only [thenE, inBlkE])
                    refine hKJ5 _ ?_
                    first
                      | exact ⟨_, Wk.trans (Wk.fz (id := 10) rfl rfl) (Wk.cut 8 (by simp [St.fz, Mem.fz, V.fz, V.fzL, AObj.fz, St.cut, St.cutOK, AObj.upto, V.upto, V.uptoL, cellsI_uptoL, encHr, encSol])), by simp [St.fz, Mem.fz, V.fz, V.fzL, AObj.fz, St.cut, St.cutOK, AObj.upto, V.upto, V.uptoL, cellsI_uptoL, encHr, encSol]⟩
                      | (refine ⟨_, Wk.norm _ [3, 9, 10, 11, 13, 14, 16], ?_⟩; rw [cutL_none (l := M.must) (by omega)]; rfl)
              · rintro σ ⟨_, hwk5, rfl⟩
                refine hK20 _ ?_
                refine tr_seq fun K23 hK23 => ?_
                refine tr_seq fun K24 hK24 => ?_
                refine tr_wk hwk5 ?_
                try simp only [List.map_cons, List.map_nil, Nat.reduceEqDiff, ↓reduceIte, List.set_cons_zero, List.set_cons_succ, Nat.reduceAdd]
                refine tr_fz [.own 5] (by simp (maxSteps := 4000000) (disch := first | assumption | omega | (simp only [go_sem, *]; done) | (simp only [go_sem, *]; omega)) only [go_sem, hq, Int.reduceToNat, Nat.reduceBEq, Nat.reduceEqDiff, Nat.reduceAdd, Nat.reduceMul, Nat.reduceLeDiff, Nat.reduceLT, Nat.reduceSub, ↓reduceIte, reduceCtorEq]; (try rfl)) ?_
                refine tr_region [3, 9, 10, 11, 117, 118, 119] rfl rfl fun K hK => ?_
                iterate 3 refine evR_p ?_
                refine evR_bs ?_
                iterate 2 refine evR_p ?_
                refine evR_e hK ?_; clear hK K
                refine hK24 _ ?_
                refine tr_block ?_
                -- loop 1: live [3, 9, 10, 11, 117, 118, 119]
                refine tr_loopW (fun m σ => ∃ i : Nat, i + m = 3 ∧ σ = ⟨[(3, .int .i64 wh), (9, .ptr 1 0), (10, .int .i64 (choW M s)), (11, .ptr 2 0), (117, .sl 4 (rows3 M (pickW mo 100) ka kb)), (118, .int .i64 3), (119, .int .i64 (i : Nat))], [(7, .cells [.sl 2 (encSps M.rooms), .sl 4 (encOfs M.offers), .sl 2 (encP2s M.apart), .sl 1 (encI (cutL M.must kb))]), (6, .cells [.sl 2 (encSps M.rooms), .sl 4 (encOfs M.offers), .sl 2 (encP2s (cutL M.apart ka)), .sl 1 (encI M.must)]), (3, .cells (encHr (longH M (pickW mo 100)))), (2, .cells (encSol (bestH M))), (1, .cells (encHr M)), (0, .cells [.int .i64 fr, .sl 2 (encP2s rs), .sl 4 (encOfs os), .int .i64 ap, .int .i64 mu])], 8⟩) (3) ?_ ?_
                · exact ⟨_, Wk.cut 8 rfl, 0, by omega, rfl⟩
                · rintro m σ ⟨i, hi, rfl⟩ KL1 hKL1
                  refine tr_seq fun K25 hK25 => ?_
                  refine tr_region [3, 9, 10, 11, 117, 118, 119, 120] rfl rfl fun K hK => ?_
                  refine evR_p ?_
                  refine evR_e hK ?_; clear hK K
                  refine hK25 _ ?_
                  refine tr_seq fun K26 hK26 => ?_
                  refine tr_condB (fun ht6 => ?_) (fun ht6 => ?_)
                  · skip
                    (first | (exfalso; omega) | (exfalso; simp_all; done) | (exfalso; rcases ht7 with ⟨h1, h2⟩ | ⟨h1, h2⟩; (rw [hkm _ h1] at h2; cases h2); (obtain ⟨h3, h4⟩ := hkb h1; rcases h2 with h2 | h2; (rw [h3] at h2; cases h2); omega)) | skip)
                    all_goals
                      have hil : i < 3 := by omega
                      obtain ⟨k, hrow, hvk, hkm, hkb⟩ := less_at hv hmp.1 hto2 ka kb hil
                      have hVk := validH_all hvk
                      have hrk2 : k.rooms.length ≤ maxLen := by have := hVk.rl; unfold maxLen; omega
                      have hok2 : k.offers.length ≤ maxLen := by have := hVk.ol; unfold maxLen; omega
                      have hak2 : k.apart.length ≤ maxLen := by have := hVk.al; unfold maxLen; omega
                      have hmk2 : k.must.length ≤ maxLen := by have := hVk.ml; unfold maxLen; omega
                      have holk := hVk.ol
                      have hrlk := hVk.rl
                      replace hq := And.intro hq (And.intro hil (And.intro hrow (hvk)))
                      refine tr_skip ?_
                      (try simp only [thenE, inBlkE])
                      refine hK26 _ ?_
                      refine tr_seq fun K27 hK27 => ?_
                      refine tr_block ?_
                      refine tr_seq fun K28 hK28 => ?_
                      refine tr_region [3, 9, 10, 11, 19, 117, 118, 119] rfl rfl fun K hK => ?_
                      iterate 4 refine evR_p ?_
                      refine evR_e hK ?_; clear hK K
                      refine hK28 _ ?_
                      refine tr_seq fun K29 hK29 => ?_
                      refine tr_region [3, 9, 10, 11, 19, 20, 21, 117, 118, 119] rfl rfl fun K hK => ?_
                      refine evR_p ?_
                      refine evR_c (hc := (k10 k hvk)) (k := ?_)
                      iterate 6 refine evR_p ?_
                      refine evR_e hK ?_; clear hK K
                      refine hK29 _ ?_
                      refine tr_seq fun K30 hK30 => ?_
                      refine tr_region [3, 9, 10, 11, 117, 118, 119, 156] rfl rfl fun K hK => ?_
                      iterate 3 refine evR_p ?_
                      iterate 2 refine evR_g ?_
                      refine evR_gc (hc := (k12 M hr ho ha hm (choW M s))) (k := ?_)
                      iterate 3 refine evR_g ?_
                      refine evR_gc (hc := (k12 k hrk2 hok2 hak2 hmk2 (choW M s))) (k := ?_)
                      iterate 2 refine evR_g ?_
                      iterate 2 refine evR_p ?_
                      iterate 14 refine evR_g ?_
                      refine evR_p ?_
                      refine evR_e hK ?_; clear hK K
                      refine hK30 _ ?_
                      refine tr_condB (fun ht7 => ?_) (fun ht7 => ?_)
                      · skip
                        (first | (exfalso; omega) | (exfalso; simp_all; done) | (exfalso; rcases ht7 with ⟨h1, h2⟩ | ⟨h1, h2⟩; (rw [hkm _ h1] at h2; cases h2); (obtain ⟨h3, h4⟩ := hkb h1; rcases h2 with h2 | h2; (rw [h3] at h2; cases h2); omega)) | skip)
                        all_goals
                          refine tr_seq fun K31 hK31 => ?_
                          refine tr_region [8] rfl rfl fun K hK => ?_
                          refine evR_p ?_
                          refine evR_e hK ?_; clear hK K
                          refine hK31 _ ?_
                          refine tr_ret ?_
                          (try simp only [thenE, inBlkE])
                          simp (maxSteps := 4000000) (disch := first | assumption | omega | (simp only [go_sem, *]; done) | (simp only [go_sem, *]; omega)) only [postA, postO, resV1, fzAll, go_sem, hq, Int.reduceToNat, Nat.reduceBEq, Nat.reduceEqDiff, Nat.reduceAdd, Nat.reduceMul, Nat.reduceLeDiff, Nat.reduceLT, Nat.reduceSub, ↓reduceIte, reduceCtorEq]
                          all_goals ((clear hq; revert hwl; generalize bestH (withH M (pickW wh 6)) = B9; intro hwl; cases hfl : B9.found with | false => simp [hfl] | true => (obtain ⟨e1, e2⟩ := hwl hfl; simp [hfl, e1, e2])))
                      · skip
                        (first | (exfalso; omega) | (exfalso; simp_all; done) | (exfalso; rcases ht7 with ⟨h1, h2⟩ | ⟨h1, h2⟩; (rw [hkm _ h1] at h2; cases h2); (obtain ⟨h3, h4⟩ := hkb h1; rcases h2 with h2 | h2; (rw [h3] at h2; cases h2); omega)) | skip)
                        all_goals
                          refine tr_skip ?_
                          (try simp only [thenE, inBlkE])
                          refine hK27 _ ?_
                          refine tr_region [3, 9, 10, 11, 117, 118, 119] rfl rfl fun K hK => ?_
                          iterate 2 refine evR_p ?_
                          refine evR_e hK ?_; clear hK K
                          refine hKL1 _ ?_
                          exact ⟨m - 1, _, by omega, Wk.cut 8 rfl, i + 1, by omega, by rw [w64 (x := (i : Int) + 1) (by omega)]; rfl⟩
                  · skip
                    (first | (exfalso; omega) | (exfalso; simp_all; done) | (exfalso; rcases ht7 with ⟨h1, h2⟩ | ⟨h1, h2⟩; (rw [hkm _ h1] at h2; cases h2); (obtain ⟨h3, h4⟩ := hkb h1; rcases h2 with h2 | h2; (rw [h3] at h2; cases h2); omega)) | skip)
                    all_goals
                      have hil : i = 3 := by omega
                      subst hil
                      refine tr_exit ?_
                      simp only [thenE, inBlkE, Nat.reduceEqDiff, ↓reduceIte]
                      refine hK23 _ ?_
                      refine tr_seq fun K32 hK32 => ?_
                      refine tr_draw [3000008] [11, 22, 23] mixed rfl (by kernel_rfl) rfl fun K hK => ?_
                      iterate 2 refine evD_p ?_
                      refine evD_c (hc := (c12 wh 6 (by omega))) (k := ?_)
                      refine evD_c (hc := (k16 M hv (pickW wh 6))) (k := ?_)
                      refine evD_c (hc := (k10 (withH M (pickW wh 6)) hwv)) (k := ?_)
                      iterate 6 refine evD_p ?_
                      refine evD_e hK ?_; clear hK K
                      refine hK32 _ ?_
                      refine tr_seq fun K33 hK33 => ?_
                      refine tr_region [8] rfl rfl fun K hK => ?_
                      iterate 3 refine evR_p ?_
                      iterate 14 refine evR_g ?_
                      iterate 2 refine evR_p ?_
                      refine evR_e hK ?_; clear hK K
                      refine hK33 _ ?_
                      refine tr_ret ?_
                      (try simp only [thenE, inBlkE])
                      simp (maxSteps := 4000000) (disch := first | assumption | omega | (simp only [go_sem, *]; done) | (simp only [go_sem, *]; omega)) only [postA, postO, resV1, fzAll, go_sem, hq, Int.reduceToNat, Nat.reduceBEq, Nat.reduceEqDiff, Nat.reduceAdd, Nat.reduceMul, Nat.reduceLeDiff, Nat.reduceLT, Nat.reduceSub, ↓reduceIte, reduceCtorEq]
                      all_goals ((clear hq; revert hwl; generalize bestH (withH M (pickW wh 6)) = B9; intro hwl; cases hfl : B9.found with | false => simp [hfl] | true => (obtain ⟨e1, e2⟩ := hwl hfl; simp [hfl, e1, e2])))
end

end Go.Proofs.YtaaongcfeldcoaaDoor

