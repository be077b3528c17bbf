/- sortesref18: Choose, Factorial, IsSet, Rank, Unrank; conditions: at most 100 elements, or more than 1000; lists in memory. -/
import Derived.Test.YteklkjnhefnimaaDoorGe
namespace Go.Proofs.YteklkjnhefnimaaDoor
open Go.Eng Go.Dig

def eN (x : Nat) : List Value := [.string (ofN x)]

attribute [local irreducible] PV StepF wpl wpd WP Ret
attribute [local irreducible] Fit RB

theorem c14 (n k : Int) (w : World) (hn : n ≤ 100 ∨ n > 1000) : Ret Tryd.prog 14 [.int .i64 n, .int .i64 k] w (fun v w' => v = .string (ofN (chZ n k)) ∧ Keeps [] w w') := by
  refine Ret.of_WP Tryd.func14 rfl Tryd.ntmps14 rfl ?_
  have hp := Hp.start (M := []) (w := w)
  (repeat (first | (with_reducible first | apply WP_seq | apply WP_region | apply wpl_nil | apply thenQ_n) | ((first | apply wlp | (apply wlg; exact rfl; exact rfl)); (intros; ((first | apply pv_move | apply pv_assign | exact pv_or rfl rfl rfl | apply pv_lss | apply pv_gtr) <;> (first | exact rfl | exact ev_sel rfl (by assumption)))); (intros; (first | exact fI rfl | exact fB rfl | exact fT rfl)))))
  refine WP_cond rfl (fun h => ?_) (fun h => ?_)
  · have hz : chZ n k = 0 := chZ_zero (by simp at h; omega)
    (repeat (with_reducible first | apply WP_seq | apply WP_region))
    (apply wls; exact st_call rfl ent40 rfl (c40 0 _ (by decide)); rintro _ w1 ⟨rfl, hk⟩; have hp := hp.call hk)
    (repeat (first | (with_reducible first | apply wpl_nil | apply thenQ_n | apply thenQ_ret | apply WP_ret) | (apply wlp; apply pv_assign; exact fT rfl)))
    exact ret_tmp rfl rfl ⟨_, rfl, by rw [hz]; rfl, hp.keeps⟩
  · have h0 : 0 ≤ k ∧ k ≤ n ∧ n ≤ 100 := by simp at h; omega
    obtain ⟨N, rfl⟩ : ∃ N : Nat, n = N := ⟨n.toNat, by omega⟩
    obtain ⟨K, rfl⟩ : ∃ K : Nat, k = K := ⟨k.toNat, by omega⟩
    rw [chZ_nat (by omega)]
    clear h
    (repeat (first | (with_reducible first | apply WP_seq | apply WP_region | apply thenQ_n | apply WP_skip) | (apply wlp; apply pv_move; exact fI rfl)))
    (apply wlp; (exact pv_add rfl rfl); exact int_eq (b := ((K + 1 : Nat) : Int)) (by rw [i64_in (by omega) (by omega)]; omega))
    (apply wls; exact sf_make eN 0 hp rfl rfl rfl rfl rfl rfl rfl (by omega) rfl; rintro _ w1 ⟨g, rfl, hv, hp⟩)
    (repeat (first | (with_reducible first | apply WP_seq | apply WP_block | apply WP_region | apply wpl_nil | apply thenQ_n) | (apply wlp; apply pv_assign; (first | exact fI rfl | exact fS rfl))))
    refine WP_loopS [6, 28, 29, 30, 31, 32, 33, 34, 35, 36] (fun (j : Nat) F => F.put 6 (.int .i64 (j : Int))) (fun j w' => j ≤ K + 1 ∧ Hp w [] w' [ownL eN 23 1 (some ⟨g, 0, none⟩) (K + 1) (List.replicate (K + 1) 0)]) (fun j => K + 1 - j) 0 (put_self (Same.eq .refl) rfl) ⟨Nat.zero_le _, hp⟩ ?_
    clear hp
    rintro u j w2 ⟨hj, hp⟩
    (repeat (first | (with_reducible first | apply WP_seq | apply WP_region | apply wpl_nil | apply thenQ_n) | (apply wlp; ((first | apply pv_move | apply pv_leq) <;> exact rfl); (first | exact fI rfl | exact fB rfl))))
    refine WP_cond_d rfl (fun h2 => ?_) (fun h2 => ?_)
    · have hj1 : j < K + 1 := by omega
      have hrep : (List.replicate (K + 1) 0).set j 0 = List.replicate (K + 1) 0 := by
        apply List.ext_getElem?
        intro q
        rw [List.getElem?_set]
        by_cases hq : j = q
        · subst hq
          rw [if_pos rfl, if_pos (by simpa using hj1), List.getElem?_replicate, if_pos hj1]
        · rw [if_neg hq]
      (repeat (first | (with_reducible first | apply WP_seq | apply WP_block | apply WP_region | apply thenQ_n | apply WP_skip) | (apply wlp; apply pv_move; (first | exact fI rfl | exact fS rfl))))
      (apply wls; exact st_call rfl ent40 rfl (c40 0 _ (by decide)); rintro _ w3 ⟨rfl, hk⟩; have hp := hp.call hk)
      (repeat (apply wlp; ((apply pf_index; exact rfl) <;> (first | exact rfl | assumption)); exact fP rfl))
      (apply wls0; exact st_setL eN _ j 0 hp 0 rfl hv (by simpa using hj1) rfl rfl (fun _ => rfl) rfl rfl (sizeTy_ok rfl); rintro _ w4 ⟨rfl, hp⟩)
      rw [hrep] at hp
      (repeat (first | (with_reducible first | apply WP_region | apply wpl_nil | apply thenQ_n | apply inBlk_n) | (apply wlp; apply pv_move; exact fI rfl)))
      (apply wlp; exact pv_add rfl rfl; exact int_eq (i64_in (by omega) (by omega)))
      (repeat (first | (with_reducible first | apply wpl_nil | apply thenQ_n) | (apply wlp; apply pv_assign; exact fI rfl)))
      exact ⟨j + 1, put_self (Same.eq (by repeat (first | exact Same.hav | exact Same.refl | refine Same.put rfl ?_ | refine Same.havs rfl ?_))) rfl, ⟨by omega, hp⟩, by omega⟩
    · have h0K : 0 < K + 1 := by omega
      (repeat (first | (with_reducible first | apply WP_seq | apply WP_region | apply thenQ_n | apply thenQ_exit | apply WP_exit) | ((with_reducible apply inBlk_same); exact rfl) | (apply wlp; apply pv_move; exact fS rfl)))
      (apply wls; exact st_call rfl ent40 rfl (c40 1 _ (by decide)); rintro _ w3 ⟨rfl, hk⟩; have hp := hp.call hk)
      (apply wlp; exact pf_index (i := 0) rfl rfl rfl rfl h0K; exact fP rfl)
      (apply wls0; exact st_setL eN _ 0 1 hp 0 rfl hv (by simp) rfl rfl (fun _ => rfl) rfl rfl (sizeTy_ok rfl); rintro _ w4 ⟨rfl, hp⟩)
      have hv := hv.set 0 1
      (repeat (first | (with_reducible first | apply WP_seq | apply WP_block | apply WP_region | apply wpl_nil | apply thenQ_n) | (apply wlp; apply pv_assign; exact fI rfl)))
      refine WP_loop2 [7, 8, 40, 41, 42, 43, 44, 45, 46, 47, 48, 49, 50, 51, 52, 53, 54, 55, 56, 57, 58, 59, 60, 61, 62] (fun (i : Nat) (_z : List Nat) F => F.put 7 (.int .i64 (i : Int)))
        (fun i z w' => i ≤ N ∧ z.length = K + 1 ∧ (∀ q, q ≤ K → z[q]? = some (ch i q)) ∧ SVL (some ⟨g, 0, none⟩) (K + 1) z ∧ Hp w [] w' [ownL eN 23 1 (some ⟨g, 0, none⟩) (K + 1) z]) (fun i _ => N - i) 0 ((List.replicate (K + 1) 0).set 0 1) (put_self (Same.eq .refl) rfl) ⟨Nat.zero_le _, by simp, ?_, hv, hp⟩ ?_
      · intro q hq
        rw [List.getElem?_set]
        by_cases h0 : 0 = q
        · subst h0
          rw [if_pos rfl, if_pos (by simp)]
          rfl
        · rw [if_neg h0, List.getElem?_replicate, if_pos (by omega)]
          obtain ⟨q', rfl⟩ : ∃ q', q = q' + 1 := ⟨q - 1, by omega⟩
          rfl
      clear hp hv
      rintro u2 i z w5 ⟨hi, hzl, hz, hv, hp⟩
      (repeat (first | (with_reducible first | apply WP_seq | apply WP_region | apply wpl_nil | apply thenQ_n) | (apply wlp; ((first | apply pv_move | apply pv_lss) <;> exact rfl); (first | exact fI rfl | exact fB rfl))))
      refine WP_cond_d rfl (fun h3 => ?_) (fun h3 => ?_)
      · (repeat (first | (with_reducible first | apply WP_seq | apply WP_block | apply WP_region | apply wpl_nil | apply thenQ_n | apply WP_skip) | (apply wlp; (first | apply pv_move | apply pv_assign); exact fI rfl)))
        refine WP_loop2 [8, 46, 47, 48, 49, 50, 51, 52, 53, 54, 55, 56, 57, 58, 59, 60, 61, 62] (fun (j : Nat) (_z : List Nat) F => F.put 8 (.int .i64 (j : Int)))
          (fun j z w' => j ≤ K ∧ z.length = K + 1 ∧ (∀ q, q ≤ K → z[q]? = some (ch (if j < q then i + 1 else i) q)) ∧ SVL (some ⟨g, 0, none⟩) (K + 1) z ∧ Hp w [] w' [ownL eN 23 1 (some ⟨g, 0, none⟩) (K + 1) z]) (fun j _ => j) K z (put_self (Same.eq .refl) rfl) ⟨Nat.le_refl _, hzl, ?_, hv, hp⟩ ?_
        · intro q hq
          rw [if_neg (by omega)]
          exact hz q hq
        clear hp hv hz hzl
        rintro u3 j z w6 ⟨hj, hzl, hz, hv, hp⟩
        (repeat (first | (with_reducible first | apply WP_seq | apply WP_region | apply wpl_nil | apply thenQ_n) | (apply wlp; ((first | apply pv_move | apply pv_gtr) <;> exact rfl); (first | exact fI rfl | exact fB rfl))))
        refine WP_cond_d rfl (fun h4 => ?_) (fun h4 => ?_)
        · obtain ⟨m, rfl⟩ : ∃ m, j = m + 1 := ⟨j - 1, by omega⟩
          have hj1 : m + 1 < K + 1 := by omega
          have hm1 : m < K + 1 := by omega
          have hjz : m + 1 < z.length := by omega
          have hz1 := hz (m + 1) (by omega)
          have hz0 := hz m (by omega)
          rw [if_neg (by omega)] at hz1 hz0
          have hf1 : Fit (ch i (m + 1)) := ch_fit (by omega)
          have hf0 : Fit (ch i m) := ch_fit (by omega)
          (repeat (with_reducible first | apply WP_seq | apply WP_block | apply thenQ_n | apply WP_skip))
          refine WP_drawS mixed (by kernel_rfl) (fun w' => Hp w [] w' _) hp.drew ?_
          have hp := hp.drew
          (apply wdp; exact rfl; (intro w hp; exact pv_move); exact fS rfl)
          (apply wdp; exact rfl; (intro w hp; exact pv_move); exact fI rfl)
          (apply wdp; exact rfl; (intro w hp; exact pv_move); exact fS rfl)
          (apply wdp; exact rfl; (intro w hp; exact pv_move); exact fI rfl)
          (apply wdp; exact rfl; (intro w hp; exact pf_index rfl rfl rfl rfl hj1); exact fP rfl)
          (apply wdp; exact rfl; (intro w hp; exact pf_load rfl rfl (own_elem hp 0 rfl hv (fun _ => rfl) hz1 0 _ rfl)); exact fT rfl)
          (apply wdp; exact rfl; (intro w hp; exact pv_move); exact fS rfl)
          (apply wdp; exact rfl; (intro w hp; exact pv_move); exact fI rfl)
          (apply wdp; exact rfl; (intro w hp; exact pv_sub rfl rfl); exact int_eq (b := ((m : Nat) : Int)) (by rw [i64_in (by omega) (by omega)]; omega))
          (apply wdp; exact rfl; (intro w hp; exact pf_index rfl rfl rfl rfl hm1); exact fP rfl)
          (apply wdp; exact rfl; (intro w hp; exact pf_load rfl rfl (own_elem hp 0 rfl hv (fun _ => rfl) hz0 0 _ rfl)); exact fT rfl)
          (apply wds; exact rfl; exact st_call rfl ent41 rfl (c41 (ch i (m + 1)) (ch i m) _ hf1 hf0); rintro _ w7 ⟨rfl, hk⟩; have hp := hp.call hk; refine ⟨hp, ?_⟩)
          (apply wdp; exact rfl; (intro w hp; exact pf_index rfl rfl rfl rfl hj1); exact fP rfl)
          (apply wds0S; exact rfl; exact rfl; exact st_setL eN z (m + 1) _ hp 0 rfl hv hjz rfl rfl (fun _ => rfl) rfl rfl (sizeTy_ok rfl); rintro _ w8 ⟨rfl, hp⟩)
          refine wpd_nil ?_
          (repeat (first | (with_reducible first | apply WP_region | apply thenQ_n | apply inBlk_n) | (apply wlp; apply pv_move; exact fI rfl)))
          (apply wlp; exact pv_sub rfl rfl; exact int_eq (i64_in (by omega) (by omega)))
          (repeat (first | (with_reducible first | apply wpl_nil | apply thenQ_n) | (apply wlp; apply pv_assign; exact fI rfl)))
          refine ⟨m, _, put_self (Same.eq (by repeat (first | exact Same.hav | exact Same.refl | refine Same.put rfl ?_ | refine Same.havs rfl ?_))) (int_eq (by omega)), ⟨by omega, by rw [List.length_set, hzl], ?_, hv.set _ _, hp⟩, by omega⟩
          intro q hq
          rw [List.getElem?_set]
          by_cases hmq : m + 1 = q
          · subst hmq
            rw [if_pos rfl, if_pos hjz, if_pos (by omega), ch_pascal, Nat.add_comm]
          · rw [if_neg hmq, hz q hq]
            by_cases hq2 : m + 1 < q
            · rw [if_pos hq2, if_pos (by omega)]
            · rw [if_neg hq2, if_neg (by omega)]
        · obtain rfl : j = 0 := by omega
          (repeat (first | (with_reducible first | apply WP_region | apply thenQ_n | apply inBlk_n | apply thenQ_exit | apply WP_exit) | ((with_reducible apply inBlk_same); exact rfl) | (apply wlp; apply pv_move; exact fI rfl)))
          (apply wlp; exact pv_add rfl rfl; exact int_eq (i64_in (by omega) (by omega)))
          (repeat (first | (with_reducible first | apply wpl_nil | apply thenQ_n) | (apply wlp; apply pv_assign; exact fI rfl)))
          refine ⟨i + 1, z, put_self (Same.eq (by repeat (first | exact Same.hav | exact Same.refl | refine Same.put rfl ?_ | refine Same.havs rfl ?_))) rfl, ⟨by omega, hzl, ?_, hv, hp⟩, by omega⟩
          intro q hq
          have := hz q hq
          by_cases hq0 : 0 < q
          · rwa [if_pos hq0] at this
          · obtain rfl : q = 0 := by omega
            rw [if_neg hq0, ch_zero] at this
            rw [ch_zero]
            exact this
      · obtain rfl : i = N := by omega
        have hK1 : K < K + 1 := by omega
        have hzK := hz K (Nat.le_refl _)
        have hcz : w5.cell? ⟨g, 0 + K * 1, none⟩ = some (.string (ofN (ch i K))) := own_elem hp 0 rfl hv (fun _ => rfl) hzK 0 _ rfl
        (repeat (first | (with_reducible first | apply WP_seq | apply WP_region | apply wpl_nil | apply thenQ_n | apply thenQ_exit | apply WP_ret | apply WP_exit) | ((with_reducible apply inBlk_same); exact rfl) | (apply wlp; ((first | apply pv_move | apply pv_assign | (apply pf_load; exact rfl) | (apply pf_index; exact rfl)) <;> (first | exact rfl | assumption)); (first | exact fI rfl | exact fP rfl | exact fS rfl | exact fT rfl))))
        exact ret_tmp rfl rfl ⟨_, rfl, rfl, hp.keeps⟩
theorem c16 (n : Nat) (w : World) (hn : n ≤ 100) : Ret Tryd.prog 16 [.int .i64 (n : Int)] w (fun v w' => v = .string (ofN (fact n)) ∧ Keeps [] w w') := by
  refine Ret.of_WP Tryd.func16 rfl Tryd.ntmps16 rfl ?_
  have hp := Hp.start (M := []) (w := w)
  (repeat (first | (with_reducible first | apply WP_seq | apply WP_region | apply wpl_nil | apply thenQ_n) | ((first | apply wlp | (apply wlg; exact rfl; exact rfl)); (intros; ((first | apply pv_move | apply pv_assign | exact pv_orF rfl rfl | apply pv_lss | apply pv_gtr) <;> exact rfl)); (intros; (first | exact fI rfl | exact fB rfl | exact fT rfl)))))
  refine WP_cond rfl (fun h => ?_) (fun _ => ?_)
  · exfalso
    simp at h
    omega
  (repeat (with_reducible first | apply WP_seq | apply WP_region | apply thenQ_n | apply WP_skip))
  (apply wls; exact st_call rfl ent40 rfl (c40 1 _ (by decide)); rintro _ w1 ⟨rfl, hk⟩; have hp := hp.call hk)
  (repeat (first | (with_reducible first | apply WP_seq | apply WP_block | apply WP_region | apply wpl_nil | apply thenQ_n) | (apply wlp; apply pv_assign; (first | exact fI rfl | exact fT rfl))))
  refine WP_loopS [3, 4, 13, 14, 15, 16, 17, 18, 19, 20, 21] (fun (m : Nat) F => (F.put 4 (.int .i64 ((m : Int) + 2))).put 3 (.string (ofN (fact (m + 1))))) (fun m w' => (m + 1 ≤ n ∨ m = 0) ∧ Hp w [] w' []) (fun m => n - m) 0 (put_self (put_self (Same.eq .refl) rfl) rfl) ⟨.inr rfl, hp⟩ ?_
  clear hp
  rintro u m w2 ⟨hm, hp⟩
  (repeat (first | (with_reducible first | apply WP_seq | apply WP_region | apply wpl_nil | apply thenQ_n) | (apply wlp; ((first | apply pv_move | apply pv_leq) <;> exact rfl); (first | exact fI rfl | exact fB rfl))))
  refine WP_cond_d rfl (fun h => ?_) (fun h => ?_)
  · have hst : fact (m + 2) = fact (m + 1) * (m + 2) := by
      rw [show fact (m + 2) = (m + 2) * fact (m + 1) from rfl, Nat.mul_comm]
    (repeat (first | (with_reducible first | apply WP_seq | apply WP_block | apply WP_region | apply thenQ_n | apply WP_skip) | (apply wlp; apply pv_move; (first | exact fI rfl | exact fT rfl))))
    (apply wls; exact st_call rfl ent40 rfl (c40 ((m : Int) + 2) _ (by omega)); rintro _ w3 ⟨rfl, hk⟩; have hp := hp.call hk)
    rw [show ((m : Int) + 2).toNat = m + 2 from by omega]
    (apply wls; exact st_call rfl ent43 rfl (c43 (fact (m + 1)) (m + 2) _ (fact_fit (by omega)) (Fit.small (by omega))); rintro _ w4 ⟨rfl, hk⟩; have hp := hp.call hk)
    rw [← hst]
    (repeat (first | (with_reducible first | apply WP_region | apply wpl_nil | apply thenQ_n | apply inBlk_n) | (apply wlp; (first | apply pv_move | apply pv_assign); (first | exact fI rfl | exact fT rfl))))
    (apply wlp; exact pv_add rfl rfl; exact int_eq (i64_in (by omega) (by omega)))
    (repeat (first | (with_reducible first | apply wpl_nil | apply thenQ_n) | (apply wlp; apply pv_assign; exact fI rfl)))
    exact ⟨m + 1, put_self (put_self (Same.eq (by repeat (first | exact Same.hav | exact Same.refl | refine Same.put rfl ?_ | refine Same.havs rfl ?_))) (int_eq (by omega))) rfl, ⟨by omega, hp⟩, by omega⟩
  · have hfn : fact (m + 1) = fact n := by
      rcases hm with hm | hm
      · rw [show m + 1 = n from by omega]
      · subst hm
        have : n = 0 ∨ n = 1 := by omega
        rcases this with rfl | rfl <;> rfl
    rw [hfn]
    (repeat (first | (with_reducible first | apply WP_seq | apply WP_region | apply wpl_nil | apply thenQ_n | apply thenQ_exit | apply WP_ret | apply WP_exit) | ((with_reducible apply inBlk_same); exact rfl) | (apply wlp; (first | apply pv_move | apply pv_assign); exact fT rfl)))
    exact ret_tmp rfl rfl ⟨_, rfl, rfl, hp.keeps⟩
end Go.Proofs.YteklkjnhefnimaaDoor
