/- The law OddsInverse returns true; conditions: arguments that are bytes and a number. -/
import Derived.Test.YteklkjnhefnimaaDoorFb
namespace Go.Proofs.YteklkjnhefnimaaDoor
open Go.Eng Go.Dig

attribute [local irreducible] PV StepF wpl wpd WP Ret
attribute [local irreducible] Fit RB

theorem c5 (a b n : Nat) (w : World) (hn : n < 18446744073709551616) :
    Ret Tryd.prog 5 [.int .u8 (a : Int), .int .u8 (b : Int), .int .u64 (n : Int)] w (fun v w' => v = .bool true ∧ Keeps [] w w') := by
  obtain ⟨p, hp9⟩ : ∃ p, p = a % 61 := ⟨_, rfl⟩
  obtain ⟨k, hk9⟩ : ∃ k, k = b % 8 := ⟨_, rfl⟩
  have hp60 : p ≤ 60 := by omega
  have hk60 : k < 8 := by omega
  have hfc : Fit (ch p k) := ch_fit (by omega)
  have hcz : chZ (p : Int) (k : Int) = ch p k := chZ_nat (by omega)
  refine Ret.of_WP Tryd.func5 rfl Tryd.ntmps5 rfl ?_
  have hp := Hp.start (M := []) (w := w)
  (repeat (first | (with_reducible first | apply WP_seq | apply WP_region | apply wpl_nil | apply thenQ_n) | (apply wlp; apply pv_assign; exact fB rfl)))
  (apply wls; exact st_call rfl ent11 rfl (c11 _); rintro _ w1 ⟨rfl, hk⟩; have hp := hp.call hk)
  (repeat (first | (with_reducible first | apply WP_seq | apply WP_region | apply wpl_nil | apply thenQ_n) | (apply wlp; (first | apply pv_move | apply pv_assign); (first | exact fI rfl | exact fB rfl))))
  (apply wlp; exact pn_rem8 (b := 61) rfl rfl (by decide); exact int_eq (b := (p : Int)) (by rw [hp9]))
  (apply wlp; exact pf_conv rfl rfl rfl; exact int_eq (b := (p : Int)) (i64_in (by omega) (by omega)))
  (repeat (apply wlp; apply pv_move; exact fI rfl))
  (apply wlp; exact pn_rem8 (b := 8) rfl rfl (by decide); exact int_eq (b := (k : Int)) (by rw [hk9]))
  (apply wlp; exact pf_conv rfl rfl rfl; exact int_eq (b := (k : Int)) (i64_in (by omega) (by omega)))
  (repeat (first | (with_reducible first | apply WP_seq | apply WP_region | apply wpl_nil | apply thenQ_n) | (apply wlp; (first | apply pv_move | apply pv_assign); exact fI rfl)))
  (apply wls; exact st_call rfl ent12 rfl (c12 (p : Int) (k : Int) _ (by omega)); rintro _ w2 ⟨rfl, hk⟩; have hp := hp.call hk)
  rw [hcz]
  (repeat (first | (with_reducible first | apply WP_seq | apply WP_region | apply wpl_nil | apply thenQ_n) | (apply wlp; (first | apply pv_move | apply pv_assign); (first | exact fI rfl | exact fT rfl))))
  (apply wls; exact st_call rfl ent19 rfl (c19 (p : Int) (k : Int) (ch p k) _ hfc); rintro _ w3 ⟨s, c, rfl, _, hpo⟩; have hp := hp.call hpo.keeps)
  obtain ⟨hB, hZ⟩ := unZ_out (p := p) (k := k) (n := ch p k) hp60 (by omega)
  rw [hB, hZ]
  clear hpo
  (repeat (first | (with_reducible first | apply WP_seq | apply WP_region | apply wpl_nil | apply thenQ_n) | (apply wlp; ((first | apply pv_move | apply pv_assign | apply pv_extract) <;> exact rfl); (first | exact fB rfl | exact fS rfl | exact fT rfl | exact fU rfl))))
  (apply wls; exact st_call rfl ent13 rfl (c13 0 _ (by decide)); rintro _ w4 ⟨rfl, hk⟩; have hp := hp.call hk)
  (apply wlp; exact pv_seql rfl rfl; exact bool_eq (b := decide (ch p k = 0)) (ofN_eq (ch p k) 0))
  (repeat (with_reducible first | apply wpl_nil | apply thenQ_n))
  refine WP_cond_d rfl (fun h0 => ?_) (fun h0 => ?_)
  · (repeat (first | (with_reducible first | apply WP_seq | apply WP_region) | (apply wlp; apply pv_move; exact fI rfl)))
    (apply wls; exact st_call rfl ent13 rfl (c13 0 _ (by decide)); rintro _ w5 ⟨rfl, hk⟩; have hp := hp.call hk)
    (apply wls; exact st_call rfl ent19 rfl (c19 (p : Int) (k : Int) 0 _ (Fit.small (by decide))); rintro _ w6 ⟨s2, c3, rfl, _, hpo⟩; have hp := hp.call hpo.keeps)
    obtain ⟨hB2, hZ2⟩ := unZ_out (p := p) (k := k) (n := 0) hp60 (by omega)
    rw [hB2, hZ2]
    clear hpo
    (repeat (first | (with_reducible first | apply WP_seq | apply WP_region | apply wpl_nil | apply thenQ_n | apply thenQ_ret | apply WP_ret) | (apply wlp; (intros; ((first | apply pv_move | apply pv_assign | exact pv_andT rfl rfl | apply pv_not | apply pv_extract) <;> exact rfl)); (intros; (first | exact fB rfl | exact fS rfl | exact fU rfl))) | ((apply wlpT; exact rfl; exact rfl); (((first | apply pv_move | apply pv_assign | exact pv_andT rfl rfl | apply pv_not | apply pv_extract) <;> exact rfl)); (intros; (first | exact fB rfl | exact fS rfl | exact fU rfl))) | (apply wlpF; exact rfl; exact rfl; exact rfl) | (apply wlpU; exact rfl; exact rfl)))
    exact ret_tmp rfl rfl ⟨_, rfl, rfl, hp.keeps⟩
  · have hcp : 0 < ch p k := by omega
    obtain ⟨m, hm⟩ : ∃ m, m = n / 2 := ⟨_, rfl⟩
    have hm2 : m < 9223372036854775808 := by omega
    have hr : m % ch p k < ch p k := Nat.mod_lt _ hcp
    (repeat (first | (with_reducible first | apply WP_seq | apply WP_region | apply thenQ_n | apply WP_skip) | (apply wlp; apply pv_move; exact fI rfl)))
    (apply wlp; exact pn_shr (b := 1) rfl rfl (by decide); exact int_eq (b := (m : Int)) (by rw [hm]))
    (apply wlp; exact pf_conv rfl rfl rfl; exact int_eq (b := (m : Int)) (i64_in (by omega) (by omega)))
    (apply wls; exact st_call rfl ent13 rfl (c13 (m : Int) _ (by omega)); rintro _ w5 ⟨rfl, hk⟩; have hp := hp.call hk)
    rw [Int.toNat_natCast]
    (repeat (apply wlp; apply pv_move; exact fT rfl))
    (apply wls; exact st_call rfl ent24 rfl (c24 m (ch p k) _ (Fit.small (by omega)) hfc hcp); rintro _ w6 ⟨rfl, hk⟩; have hp := hp.call hk)
    generalize hrr : m % ch p k = r at hr
    (repeat (first | (with_reducible first | apply WP_seq | apply WP_region | apply wpl_nil | apply thenQ_n) | (apply wlp; ((first | apply pv_move | apply pv_assign | apply pv_extract) <;> exact rfl); (first | exact fI rfl | exact fB rfl | exact fT rfl | exact fU rfl))))
    (apply wls; exact st_call rfl ent19 rfl (c19 (p : Int) (k : Int) r _ (hfc.le (by omega))); rintro _ w7 ⟨s2, c3, rfl, hv, hpo⟩; have hp := hp.call hpo.keeps)
    obtain ⟨hB2, hZ2⟩ := unZ_in (p := p) (k := k) (n := r) hp60 hr
    rw [hB2, hZ2]
    rw [hZ2] at hv hpo
    have hs : SlAt w7 1 eI s2 (un p p k r) := ownL_At hpo 0 rfl hv (fun _ => rfl)
    clear hpo
    have hul := un_len p p k r hr
    have h22 := c22 (p : Int) (un p p k r) s2 c3 w7 hs (by omega)
    rw [un_set hp60, if_pos rfl, rk_un hp60 hr] at h22
    (repeat (first | (with_reducible first | apply WP_seq | apply WP_region | apply wpl_nil | apply thenQ_n) | (apply wlp; ((first | apply pv_move | apply pv_assign | apply pv_extract) <;> exact rfl); (first | exact fI rfl | exact fB rfl | exact fS rfl | exact fU rfl))))
    (apply wls; exact st_call rfl ent22 rfl h22; rintro _ w8 ⟨rfl, hk⟩; have hp := hp.call hk)
    (repeat (first | (with_reducible first | apply WP_seq | apply WP_region | apply wpl_nil | apply thenQ_n | apply WP_ret) | ((first | apply wlp | (apply wlg; exact rfl; exact rfl)); (intros; ((first | apply pv_move | apply pv_assign | (apply pf_len; exact rfl) | exact pv_andT rfl rfl | exact pv_and rfl rfl rfl | (apply pv_eql; (first | exact rfl | exact ev_sel rfl (by assumption))) | apply pv_not | apply pv_extract | (apply pv_seql; (first | exact rfl | exact ev_sel rfl (by assumption)))) <;> (first | exact rfl | exact ev_sel rfl (by assumption)))); (intros; (first | exact fI rfl | exact fB rfl | exact fS rfl | exact fT rfl | exact fU rfl)))))
    refine ret_tmp rfl (fB rfl) ⟨_, rfl, bool_eq ?_, hp.keeps⟩
    simp [hul, hrr]
end Go.Proofs.YteklkjnhefnimaaDoor
