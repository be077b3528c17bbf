/- Layer 14: the law TypesCheck returns true; conditions: the numbers lie in memory. -/
import Derived.Test.YtgephdcapajaiaaU
import Derived.Test.YtgephdcapajaiaaV
namespace Go.Proofs.Ytgephdcapajaiaa
open Go.Eng
attribute [local irreducible] PV StepF wpl wpd WP Ret
attribute [local irreducible] chk

set_option maxHeartbeats 1000000 in
theorem c3 (l : List Int) (s : Option Addr) (c : Nat) (q0 q1 q2 q3 q4 q5 : Int) (w0 : World) (hs : SlAt w0 1 eI s l) (hl : l.length ≤ maxLen) :
    Ret Try.prog 3 [.slice s l.length c, .agg #[.int .i64 q0, .int .i64 q1, .int .i64 q2, .int .i64 q3, .int .i64 q4, .int .i64 q5]] w0 (fun v w' => v = .bool true ∧ Keeps [] w0 w') := by
  refine Ret.of_WP Try.func3 rfl Try.ntmps3 rfl ?_
  have hp := Hp.start (M := []) (w := w0)
  ((repeat (with_reducible first | apply WP_seq | apply WP_region)); apply wls; exact sbox6 hp rfl; rintro _ w ⟨qb, rfl, hp⟩)
  (repeat (first | (with_reducible first | apply WP_seq | apply WP_region | apply wpl_nil | apply thenQ_n) | (apply wlp; apply pv_assign; exact fB rfl)))
  (apply wls; exact st_call rfl ent10 rfl (c10 _))
  rintro _ w ⟨rfl, hk⟩
  have hp := hp.call hk
  (repeat (first | (with_reducible first | apply WP_seq | apply WP_region | apply wpl_nil | apply thenQ_n) | (apply wlp; (first | apply pv_move | apply pv_assign); (first | exact fB rfl | exact fS rfl))))
  (apply wls; exact st_call rfl ent11 rfl (c11 l s c _ (hs.keep0 hp.keeps) hl))
  rintro _ w1 ⟨d, a, rfl, hk, hG⟩
  have hp := hp.call hk
  have cqA := hp.agg_blk (k := 3) (o := 0 + 0 * 3) 0 rfl rfl
  have cqB := hp.agg_blk (k := 3) (o := 0 + 1 * 3) 0 rfl rfl
  have hk1 := hp.keeps
  clear hp hk
  have hp := Hp.start (M := []) (w := w1)
  have hd : DrAt w1 d a := hG.at_
  have hln : DrLn d 40 := ⟨Nat.le_trans hG.tl (by decide), Nat.le_trans hG.pl (by decide), Nat.le_trans hG.ql (by decide), hG.bl⟩
  (apply wls; exact salloc13 hp (zeroTy_ok rfl); rintro _ w ⟨db, rfl, hp⟩)
  (apply wls0; exact sstore13 hp 0 rfl rfl rfl rfl (sizeTy_ok rfl) rfl; rintro _ w ⟨rfl, hp⟩)
  have hp := hp.norm 0 (drC d a) rfl rfl
  (repeat (first | (with_reducible first | apply WP_seq | apply WP_region | apply wpl_nil | apply thenQ_n) | (apply wlp; ((first | (apply pf_loadb; exact rfl) | (apply pf_index_a; exact rfl)) <;> (first | exact rfl | exact hp.agg_blk 0 rfl rfl)); exact fA13 rfl)))
  (apply wlp; exact pf_index_a (i := 0) rfl rfl rfl (by decide); exact fP rfl)
  (apply wlp; (apply pf_loadb; exact rfl; exact rfl; exact rfl; exact fun j v hv => hp.old0 (cqA j v hv)); exact fA3 rfl)
  (apply wls; exact st_call rfl ent12 rfl (c12 d a q0 q1 q2 40 _ (hd.keep hp.keeps) hG.sz hln (by omega)))
  rintro _ w ⟨d1, a1, rfl, hp1, v1, hz1, hl1⟩
  have hp := hp.join hp1
  (apply wls; exact salloc13 hp (zeroTy_ok rfl); rintro _ w ⟨ab, rfl, hp⟩)
  (apply wls0; exact sstore13 hp 0 rfl rfl rfl rfl (sizeTy_ok rfl) rfl; rintro _ w ⟨rfl, hp⟩)
  have hp := hp.norm 0 (drC d1 a1) rfl rfl
  -- ab, B, Q, P, T, db
  (repeat (with_reducible first | apply WP_seq | apply wpl_nil | apply thenQ_n))
  refine WP_drawE false [0, 1, 2, 3, 4, 5, 6, 7, 8] mixed (by kernel_rfl) rfl (fun w' => Hp w1 [] w' [blk ab 13 (frOf (drC d1 a1)) 30, blk db 13 (frOf (drC d a)) 30]) (hp.drew.pick2 0 5 rfl rfl rfl) ?_
  have hp := hp.drew
  (repeat ((apply wep; exact rfl; exact rfl); (intro w hp; intros; ((first | (apply pf_loadb; exact rfl) | (apply pf_index_a; exact rfl)) <;> (first | exact rfl | exact hp.agg_blk 0 rfl rfl | exact hp.agg_blk 1 rfl rfl))); (intros; exact fA13 rfl)))
  (apply wep; exact rfl; exact rfl; (intro w hp; exact pf_index_a (i := 1) rfl rfl rfl (by decide)); exact fP rfl)
  (apply wep; exact rfl; exact rfl; (intro w hp; apply pf_loadb; exact rfl; exact rfl; exact rfl; exact fun j v hv => hp.old0 (cqB j v hv)); exact fA3 rfl)
  refine wee1 7 rfl (by kernel_rfl) rfl rfl ?eA ?eB
  case' eA =>
    (apply wbs; exact rfl; exact st_call rfl ent12 rfl (c12 d1 a1 q3 q4 q5 90 _ (v1.at_ hp 1 2 3 4 rfl rfl rfl rfl) hz1 hl1 (by omega)); rintro _ w ⟨d2, a2, rfl, hp2, v2, hz2, hl2⟩; have hp := hp.join hp2; refine ⟨hp.pick2 4 9 rfl rfl rfl, ?_⟩)
    (apply wep; exact rfl; exact rfl; (intro w hp; exact pf_build_ord rfl rfl rfl rfl rfl rfl); exact fA39 rfl)
    refine wee0 rfl (by kernel_rfl) ?_ rfl
    (apply wbs; exact rfl; exact st_alloc hp (zeroTy_ok rfl) rfl rfl; rintro _ w ⟨tb, rfl, hp⟩; refine ⟨hp.pick2 5 10 rfl rfl rfl, ?_⟩)
    refine wee0 rfl (by kernel_rfl) ?_ rfl
    (apply wbs0S; exact rfl; exact rfl; exact st_store hp 0 rfl rfl rfl rfl (sizeTy_ok rfl) rfl rfl; rintro _ w9 ⟨rfl, hp⟩)
    have hd0 : DrAt w9 d a := hd.keep hp.keeps
    have hd1 : DrAt w9 d1 a1 := v1.at_ hp 6 7 8 9 rfl rfl rfl rfl
    have hd2 : DrAt w9 d2 a2 := v2.at_ hp 1 2 3 4 rfl rfl rfl rfl
    have cD := hp.agg_blk (k := 13) (o := 0) 10 rfl rfl
    have c0 := hp.agg_blk (k := 13) (o := 0 + 0 * 13) 0 rfl rfl
    have c1 := hp.agg_blk (k := 13) (o := 0 + 1 * 13) 0 rfl rfl
    have c2 := hp.agg_blk (k := 13) (o := 0 + 2 * 13) 0 rfl rfl
  case' eB =>
    (apply wbs; exact rfl; exact st_alloc hp (zeroTy_ok rfl) rfl rfl; rintro _ w ⟨tb, rfl, hp⟩; refine ⟨hp.pick2 1 6 rfl rfl rfl, ?_⟩)
    refine wee0 rfl (by kernel_rfl) ?_ rfl
    (apply wbs; exact rfl; exact st_call rfl ent12 rfl (c12 d1 a1 q3 q4 q5 90 _ (v1.at_ hp 2 3 4 5 rfl rfl rfl rfl) hz1 hl1 (by omega)); rintro _ w ⟨d2, a2, rfl, hp2, v2, hz2, hl2⟩; have hp := hp.join hp2; refine ⟨hp.pick2 5 10 rfl rfl rfl, ?_⟩)
    (apply wep; exact rfl; exact rfl; (intro w hp; exact pf_build_ord rfl rfl rfl rfl rfl rfl); exact fA39 rfl)
    refine wee0 rfl (by kernel_rfl) ?_ rfl
    (apply wbs0S; exact rfl; exact rfl; exact st_store hp 4 rfl rfl rfl rfl (sizeTy_ok rfl) rfl rfl; rintro _ w9 ⟨rfl, hp⟩)
    have hd0 : DrAt w9 d a := hd.keep hp.keeps
    have hd1 : DrAt w9 d1 a1 := v1.at_ hp 6 7 8 9 rfl rfl rfl rfl
    have hd2 : DrAt w9 d2 a2 := v2.at_ hp 0 1 2 3 rfl rfl rfl rfl
    have cD := hp.agg_blk (k := 13) (o := 0) 10 rfl rfl
    have c0 := hp.agg_blk (k := 13) (o := 0 + 0 * 13) 4 rfl rfl
    have c1 := hp.agg_blk (k := 13) (o := 0 + 1 * 13) 4 rfl rfl
    have c2 := hp.agg_blk (k := 13) (o := 0 + 2 * 13) 4 rfl rfl
  all_goals (
  have hk9 := hk1.trans hp.keeps (by simp)
  clear hp
  refine wpe_nil ?_
  (repeat (first | (with_reducible first | apply WP_seq | apply WP_block | apply WP_region | apply wpl_nil | apply thenQ_n) | (apply wlp; apply pv_assign; exact fI rfl)))
  refine WP_loopS [4, 9, 10, 11, 12, 13, 28, 29, 30, 31, 32, 33, 34, 35, 36, 37, 38, 39, 40, 41, 42, 43, 44, 45, 46, 47, 48, 49, 50, 51, 52, 53] (fun (i : Nat) F => F.put 9 (.int .i64 i)) (fun i w' => i ≤ 3 ∧ Keeps [] w9 w') (fun i => 3 - i) 0 (put_self (Same.eq .refl) rfl) ⟨Nat.zero_le _, .refl⟩ ?_
  rintro u i w10 ⟨hi, hk⟩
  have hp := Hp.of_keeps hk
  (repeat (first | (with_reducible first | apply WP_seq | apply WP_region | apply wpl_nil | apply thenQ_n) | (apply wlp; ((first | apply pv_move | apply pv_lss) <;> exact rfl); (first | exact fI rfl | exact fB rfl))))
  refine WP_cond_d rfl (fun h => ?_) (fun h => ?_)
  · have hi2 : i = 0 ∨ i = 1 ∨ i = 2 := by omega
    rcases hi2 with rfl | rfl | rfl
    · ((repeat (with_reducible first | apply WP_seq | apply WP_block | apply WP_region | apply thenQ_n | apply WP_skip)); (apply wlp; apply pv_move; exact fI rfl))
      (apply wlp; exact pf_index_a rfl rfl rfl (by decide); exact fP rfl)
      (apply wlp; (apply pf_loadb; exact rfl; exact rfl; exact rfl; exact fun j v hv => hp.old0 (c0 j v hv)); exact fA13 rfl)
      (apply wls; exact st_call rfl ent13 rfl (c13 d a _ (hd0.keep hp.keeps)))
      rintro _ w11 ⟨rfl, hk2⟩
      have hp := hp.call hk2
      ((repeat fail); (apply wlp; apply pv_move; exact fU rfl); (apply wlp; (apply pv_extract <;> exact rfl); exact fT rfl); (apply wlp; (apply pv_extract <;> exact rfl); exact fI rfl); (apply wlp; apply pv_assign; exact fT rfl); (apply wlp; apply pv_assign; exact fI rfl); (repeat (with_reducible first | apply WP_seq | apply WP_region | apply wpl_nil | apply thenQ_n)); (apply wlp; apply pv_move; exact fI rfl))
      (apply wlp; exact pf_index_a rfl rfl rfl (by decide); exact fP rfl)
      (apply wlp; (apply pf_loadb; exact rfl; exact rfl; exact rfl; exact fun j v hv => hp.old0 (c0 j v hv)); exact fA13 rfl)
      (apply wls; exact st_call rfl ent14 rfl (c14 d a _ (hd0.keep hp.keeps) hG.sz))
      rintro _ w12 ⟨rfl, hk3⟩
      have hp := hp.call hk3
      (repeat (first | (with_reducible first | apply WP_seq | apply WP_region | apply wpl_nil | apply thenQ_n) | ((first | apply wlp | (apply wlg; exact rfl; exact rfl)); (intros; ((first | apply pv_move | apply pv_assign | exact pv_or rfl rfl rfl | (apply pv_neq; (first | exact rfl | exact ev_sel rfl (by assumption))) | apply pv_extract | (apply pv_sneq; (first | exact rfl | exact ev_sel rfl (by assumption)))) <;> (first | exact rfl | exact ev_sel rfl (by assumption)))); (intros; (first | exact fI rfl | exact fB rfl | exact fT rfl | exact fU rfl)))))
      refine WP_cond rfl (fun h2 => ?_) (fun h2 => ?_)
      · exfalso
        simp at h2
      · (repeat (first | (with_reducible first | apply WP_region | apply thenQ_n | apply inBlk_n | apply WP_skip) | (apply wlp; apply pv_move; exact fI rfl)))
        (apply wlp; exact pv_add rfl rfl; exact int_eq (i64_in (by omega) (by omega)))
        (repeat (first | (with_reducible first | apply wpl_nil | apply thenQ_n) | (apply wlp; apply pv_assign; exact fI rfl)))
        exact ⟨1, put_self (Same.eq (by repeat (first | exact Same.hav | exact Same.refl | refine Same.put rfl ?_ | refine Same.havs rfl ?_))) rfl, ⟨by omega, hp.keeps⟩, by omega⟩
    · ((repeat (with_reducible first | apply WP_seq | apply WP_block | apply WP_region | apply thenQ_n | apply WP_skip)); (apply wlp; apply pv_move; exact fI rfl))
      (apply wlp; exact pf_index_a rfl rfl rfl (by decide); exact fP rfl)
      (apply wlp; (apply pf_loadb; exact rfl; exact rfl; exact rfl; exact fun j v hv => hp.old0 (c1 j v hv)); exact fA13 rfl)
      (apply wls; exact st_call rfl ent13 rfl (c13 d1 a1 _ (hd1.keep hp.keeps)))
      rintro _ w11 ⟨rfl, hk2⟩
      have hp := hp.call hk2
      ((repeat fail); (apply wlp; apply pv_move; exact fU rfl); (apply wlp; (apply pv_extract <;> exact rfl); exact fT rfl); (apply wlp; (apply pv_extract <;> exact rfl); exact fI rfl); (apply wlp; apply pv_assign; exact fT rfl); (apply wlp; apply pv_assign; exact fI rfl); (repeat (with_reducible first | apply WP_seq | apply WP_region | apply wpl_nil | apply thenQ_n)); (apply wlp; apply pv_move; exact fI rfl))
      (apply wlp; exact pf_index_a rfl rfl rfl (by decide); exact fP rfl)
      (apply wlp; (apply pf_loadb; exact rfl; exact rfl; exact rfl; exact fun j v hv => hp.old0 (c1 j v hv)); exact fA13 rfl)
      (apply wls; exact st_call rfl ent14 rfl (c14 d1 a1 _ (hd1.keep hp.keeps) hz1))
      rintro _ w12 ⟨rfl, hk3⟩
      have hp := hp.call hk3
      (repeat (first | (with_reducible first | apply WP_seq | apply WP_region | apply wpl_nil | apply thenQ_n) | ((first | apply wlp | (apply wlg; exact rfl; exact rfl)); (intros; ((first | apply pv_move | apply pv_assign | exact pv_or rfl rfl rfl | (apply pv_neq; (first | exact rfl | exact ev_sel rfl (by assumption))) | apply pv_extract | (apply pv_sneq; (first | exact rfl | exact ev_sel rfl (by assumption)))) <;> (first | exact rfl | exact ev_sel rfl (by assumption)))); (intros; (first | exact fI rfl | exact fB rfl | exact fT rfl | exact fU rfl)))))
      refine WP_cond rfl (fun h2 => ?_) (fun h2 => ?_)
      · exfalso
        simp at h2
      · (repeat (first | (with_reducible first | apply WP_region | apply thenQ_n | apply inBlk_n | apply WP_skip) | (apply wlp; apply pv_move; exact fI rfl)))
        (apply wlp; exact pv_add rfl rfl; exact int_eq (i64_in (by omega) (by omega)))
        (repeat (first | (with_reducible first | apply wpl_nil | apply thenQ_n) | (apply wlp; apply pv_assign; exact fI rfl)))
        exact ⟨2, put_self (Same.eq (by repeat (first | exact Same.hav | exact Same.refl | refine Same.put rfl ?_ | refine Same.havs rfl ?_))) rfl, ⟨by omega, hp.keeps⟩, by omega⟩
    · ((repeat (with_reducible first | apply WP_seq | apply WP_block | apply WP_region | apply thenQ_n | apply WP_skip)); (apply wlp; apply pv_move; exact fI rfl))
      (apply wlp; exact pf_index_a rfl rfl rfl (by decide); exact fP rfl)
      (apply wlp; (apply pf_loadb; exact rfl; exact rfl; exact rfl; exact fun j v hv => hp.old0 (c2 j v hv)); exact fA13 rfl)
      (apply wls; exact st_call rfl ent13 rfl (c13 d2 a2 _ (hd2.keep hp.keeps)))
      rintro _ w11 ⟨rfl, hk2⟩
      have hp := hp.call hk2
      ((repeat fail); (apply wlp; apply pv_move; exact fU rfl); (apply wlp; (apply pv_extract <;> exact rfl); exact fT rfl); (apply wlp; (apply pv_extract <;> exact rfl); exact fI rfl); (apply wlp; apply pv_assign; exact fT rfl); (apply wlp; apply pv_assign; exact fI rfl); (repeat (with_reducible first | apply WP_seq | apply WP_region | apply wpl_nil | apply thenQ_n)); (apply wlp; apply pv_move; exact fI rfl))
      (apply wlp; exact pf_index_a rfl rfl rfl (by decide); exact fP rfl)
      (apply wlp; (apply pf_loadb; exact rfl; exact rfl; exact rfl; exact fun j v hv => hp.old0 (c2 j v hv)); exact fA13 rfl)
      (apply wls; exact st_call rfl ent14 rfl (c14 d2 a2 _ (hd2.keep hp.keeps) hz2))
      rintro _ w12 ⟨rfl, hk3⟩
      have hp := hp.call hk3
      (repeat (first | (with_reducible first | apply WP_seq | apply WP_region | apply wpl_nil | apply thenQ_n) | ((first | apply wlp | (apply wlg; exact rfl; exact rfl)); (intros; ((first | apply pv_move | apply pv_assign | exact pv_or rfl rfl rfl | (apply pv_neq; (first | exact rfl | exact ev_sel rfl (by assumption))) | apply pv_extract | (apply pv_sneq; (first | exact rfl | exact ev_sel rfl (by assumption)))) <;> (first | exact rfl | exact ev_sel rfl (by assumption)))); (intros; (first | exact fI rfl | exact fB rfl | exact fT rfl | exact fU rfl)))))
      refine WP_cond rfl (fun h2 => ?_) (fun h2 => ?_)
      · exfalso
        simp at h2
      · (repeat (first | (with_reducible first | apply WP_region | apply thenQ_n | apply inBlk_n | apply WP_skip) | (apply wlp; apply pv_move; exact fI rfl)))
        (apply wlp; exact pv_add rfl rfl; exact int_eq (i64_in (by omega) (by omega)))
        (repeat (first | (with_reducible first | apply wpl_nil | apply thenQ_n) | (apply wlp; apply pv_assign; exact fI rfl)))
        exact ⟨3, put_self (Same.eq (by repeat (first | exact Same.hav | exact Same.refl | refine Same.put rfl ?_ | refine Same.havs rfl ?_))) rfl, ⟨by omega, hp.keeps⟩, by omega⟩
  · ((repeat (first | (with_reducible first | apply WP_seq | apply WP_region | apply thenQ_n | apply thenQ_exit | apply WP_exit) | ((with_reducible apply inBlk_same); exact rfl))); (apply wlp; apply pv_move; exact fB rfl); (apply wlp; apply pv_move; exact fB rfl))
    (apply wlpT; exact rfl; exact rfl; (apply pf_loadb; exact rfl; exact rfl; exact rfl; exact fun j v hv => hp.old0 (cD j v hv)); exact fA13 rfl)
    (apply wlsT; exact rfl; exact rfl; exact st_call rfl ent15 rfl (c15 d a _ _ _ (hd0.keep hp.keeps)); rintro _ w ⟨rfl, hk⟩; have hp := hp.call hk)
    (apply wlp; exact pv_and' rfl rfl; exact bool_eq ((Bool.true_and _).trans (isB_of hG.ok)))
    (repeat (first | (with_reducible first | apply wpl_nil | apply thenQ_n | apply WP_ret) | (apply wlp; apply pv_assign; exact fB rfl)))
    exact ret_tmp rfl rfl ⟨_, rfl, rfl, hk9.trans hp.keeps (by simp)⟩)
end Go.Proofs.Ytgephdcapajaiaa
