/- nat: multiply; conditions: the lists lie in memory and are short. -/
import Derived.Test.YteklkjnhefnimaaDoorDc
namespace Go.Proofs.YteklkjnhefnimaaDoor
open Go.Eng Go.Dig
attribute [local irreducible] PV StepF wpl wpd WP Ret

theorem c46 (x y : Nat) (s s2 : Option Addr) (c c2 : Nat) (w : World) (hx : DA w x s c) (hy : DA w y s2 c2) (hlx : (dN x).length ≤ 100000) (hly : (dN y).length ≤ 100000) :
    Ret Tryd.prog 46 [.slice s (dN x).length c, .slice s2 (dN y).length c2] w (fun v w' => ∃ s' c', v = .slice s' (dN (x * y)).length c' ∧ DA w' (x * y) s' c' ∧ Keeps [] w w') := by
  refine Ret.of_WP Tryd.func46 rfl Tryd.ntmps46 rfl ?_
  have hp := Hp.start (M := []) (w := w)
  (repeat (first | (with_reducible first | apply WP_seq | apply WP_region | apply wpl_nil | apply thenQ_n) | (apply wlp; ((first | apply pv_move | apply pv_assign | (apply pf_len; exact rfl)) <;> exact rfl); (first | exact fI rfl | exact fS rfl))))
  (apply wlp; (exact pv_add rfl rfl); exact int_eq (b := (((dN x).length + (dN y).length : Nat) : Int)) (by rw [i64_in (by omega) (by omega)]; omega))
  (apply wls; exact sf_make eW 0 hp rfl rfl rfl rfl rfl rfl rfl (by omega) rfl; rintro _ w2 ⟨g, rfl, hv, hp⟩)
  (repeat (first | (with_reducible first | apply WP_seq | apply WP_block | apply WP_region | apply wpl_nil | apply thenQ_n) | (apply wlp; ((first | apply pv_move | apply pv_assign | (apply pf_len; exact rfl)) <;> exact rfl); (first | exact fI rfl | exact fS rfl))))
  refine WP_loop2 [6, 7, 8, 9, 10, 19, 20, 21, 22, 23, 24, 25, 26, 27, 28, 29, 30, 31, 32, 33, 34, 35, 36, 37, 38, 39, 40, 41, 42, 43, 44, 45, 46, 47, 48, 49, 50, 51, 52, 53, 54, 55, 56, 57, 58, 59, 60, 61, 62, 63, 64] (fun (i : Nat) (_z : List Nat) F => F.put 19 (.int .i64 i))
    (fun i z w' => i ≤ (dN x).length ∧ z.length = (dN x).length + (dN y).length ∧ Bd 4294967296 z ∧ val 4294967296 z = x % 4294967296 ^ i * y ∧ SVL (some ⟨g, 0, none⟩) ((dN x).length + (dN y).length) z ∧ Hp w [] w' [ownL eW 93 1 (some ⟨g, 0, none⟩) ((dN x).length + (dN y).length) z])
    (fun i _ => (dN x).length - i) 0 (List.replicate ((dN x).length + (dN y).length) 0) (put_self (Same.eq .refl) rfl) ⟨Nat.zero_le _, by simp, zeros_bd (by decide) _, by simp [val_zeros, Nat.mod_one], hv, hp⟩ ?_
  clear hp hv
  rintro u i z w3 ⟨hi, hzl, hzb, hval, hv, hp⟩
  (repeat (first | (with_reducible first | apply WP_seq | apply WP_region | apply wpl_nil | apply thenQ_n) | (apply wlp; (apply pv_lss <;> exact rfl); exact fB rfl)))
  refine WP_cond_d rfl (fun h2 => ?_) (fun h2 => ?_)
  · have hlt : i < (dN x).length := by omega
    obtain ⟨b0, o0, hs0, hc0⟩ := hx.at_.base (by omega)
    have hci := hc0 i _ (List.getElem?_eq_getElem hlt) 0 _ rfl
    have hbd := (dN_bd x).get hlt
    have hg := dN_get hlt
    generalize (dN x)[i] = dx at hci hbd hg
    have htop : z[i + (dN y).length]? = some 0 := by
      have h1 : i + (dN y).length < z.length := by omega
      rw [List.getElem?_eq_getElem h1]
      congr 1
      refine val_high (b := 4294967296) (by decide) (k := i + (dN y).length) ?_ h1 (Nat.le_refl _)
      rw [hval, Nat.pow_add]
      exact Nat.mul_lt_mul'' (Nat.mod_lt _ (Nat.pow_pos (by decide))) (dN_lt (Nat.le_refl _))
    (repeat (first | (with_reducible first | apply WP_seq | apply WP_block | apply WP_region | apply wpl_nil | apply thenQ_n | apply WP_skip) | (apply wlp; ((first | apply pv_move | apply pv_assign | (apply pf_load; exact rfl) | (apply pf_len; exact rfl) | (apply pf_index; exact rfl)) <;> (first | exact rfl | assumption | exact hp.old0 (by assumption))); (first | exact fI rfl | exact fP rfl | exact fS rfl))))
    refine WP_loop3 [8, 9, 10, 26, 27, 28, 29, 30, 31, 32, 33, 34, 35, 36, 37, 38, 39, 40, 41, 42, 43, 44, 45, 46, 47, 48, 49, 50, 51, 52, 53, 54, 55] (fun (j cy : Nat) (_z : List Nat) F => (F.put 26 (.int .i64 j)).put 8 (.int .u64 (cy : Int)))
      (fun j cy z w' => j ≤ (dN y).length ∧ z.length = (dN x).length + (dN y).length ∧ Bd 4294967296 z ∧ cy < 4294967296 ∧ val 4294967296 z + cy * 4294967296 ^ (i + j) = x % 4294967296 ^ i * y + dx * (y % 4294967296 ^ j) * 4294967296 ^ i ∧ z[i + (dN y).length]? = some 0 ∧ SVL (some ⟨g, 0, none⟩) ((dN x).length + (dN y).length) z ∧ Hp w [] w' [ownL eW 93 1 (some ⟨g, 0, none⟩) ((dN x).length + (dN y).length) z])
      (fun j _ _ => (dN y).length - j) 0 0 z (put_self (put_self (Same.eq .refl) rfl) rfl) ⟨Nat.zero_le _, hzl, hzb, by omega, by simp [hval, Nat.mod_one], htop, hv, hp⟩ ?_
    clear hp hv hzl hzb hval htop z
    rintro u2 j cy z w4 ⟨hj, hzl, hzb, hcy, hval, htop, hv, hp⟩
    (repeat (first | (with_reducible first | apply WP_seq | apply WP_region | apply wpl_nil | apply thenQ_n) | (apply wlp; (apply pv_lss <;> exact rfl); exact fB rfl)))
    refine WP_cond_d rfl (fun h3 => ?_) (fun h3 => ?_)
    · have hltj : j < (dN y).length := by omega
      have hij : i + j < (dN x).length + (dN y).length := by omega
      have hijz : i + j < z.length := by omega
      obtain ⟨b1, o1, hs1, hc1⟩ := hy.at_.base (by omega)
      have hcj := hc1 j _ (List.getElem?_eq_getElem hltj) 0 _ rfl
      have hbd2 := (dN_bd y).get hltj
      have hg2 := dN_get hltj
      generalize (dN y)[j] = dy at hcj hbd2 hg2
      have hcz := own_elem hp 0 rfl hv (fun _ => rfl) (List.getElem?_eq_getElem hijz) 0 _ rfl
      have hzo := hzb.get hijz
      have hset := fun d => val_set 4294967296 z (i + j) d hijz
      generalize z[i + j] = old at hcz hzo hset
      have hfit := mul_fit hcy hbd hbd2 hzo
      have hmul : dx * dy < 18446744073709551616 := by omega
      (repeat (first | (with_reducible first | apply WP_seq | apply WP_block | apply WP_region | apply wpl_nil | apply thenQ_n | apply WP_skip) | (apply wlp; ((first | apply pv_move | apply pv_assign | (apply pf_load; exact rfl) | (apply pf_index; exact rfl) | exact pn_64of32 rfl rfl rfl (by assumption)) <;> (first | exact rfl | assumption | exact hp.old0 (by assumption))); (first | exact fI rfl | exact fP rfl))))
      (apply wlp; exact pn_mul64 rfl rfl hmul; exact fI rfl)
      (repeat (apply wlp; apply pv_move; (first | exact fI rfl | exact fS rfl)))
      (apply wlp; (exact pv_add rfl rfl); exact int_eq (b := ((i + j : Nat) : Int)) (by rw [i64_in (by omega) (by omega)]; omega))
      (repeat (apply wlp; ((first | (apply pf_load; exact rfl) | (apply pf_index; exact rfl) | exact pn_64of32 rfl rfl rfl (by assumption)) <;> (first | exact rfl | assumption)); (first | exact fI rfl | exact fP rfl)))
      (apply wlp; exact pn_add64 rfl rfl (by omega); exact fI rfl)
      (apply wlp; exact pn_add64 rfl rfl (by omega); exact fI rfl)
      (repeat (first | (with_reducible first | apply WP_seq | apply WP_region | apply wpl_nil | apply thenQ_n) | (apply wlp; (first | apply pv_move | apply pv_assign); (first | exact fI rfl | exact fS rfl))))
      (apply wlp; (exact pv_add rfl rfl); exact int_eq (b := ((i + j : Nat) : Int)) (by rw [i64_in (by omega) (by omega)]; omega))
      (repeat (apply wlp; ((first | apply pv_move | (apply pf_index; exact rfl) | exact pn_32of rfl rfl rfl) <;> (first | exact rfl | assumption)); (first | exact fI rfl | exact fP rfl)))
      (apply wls0; exact st_setL eW z (i + j) _ hp 0 rfl hv hijz rfl rfl (fun _ => rfl) rfl rfl (sizeTy_ok rfl); rintro _ w4 ⟨rfl, hp⟩)
      (repeat (first | (with_reducible first | apply WP_region | apply wpl_nil | apply thenQ_n) | (apply wlp; apply pv_move; exact fI rfl)))
      (apply wlp; exact pn_shr (b := 32) rfl rfl (by decide); exact fI rfl)
      (repeat (first | (with_reducible first | apply WP_region | apply wpl_nil | apply thenQ_n | apply inBlk_n) | (apply wlp; apply pv_assign; exact fI rfl)))
      (apply wlp; exact pv_add rfl rfl; exact int_eq (i64_in (by omega) (by omega)))
      (repeat (first | (with_reducible first | apply wpl_nil | apply thenQ_n) | (apply wlp; apply pv_move; exact fI rfl)))
      refine ⟨j + 1, _, _, put_self (put_self (Same.eq (by repeat (first | exact Same.hav | exact Same.refl | refine Same.put rfl ?_ | refine Same.havs rfl ?_))) rfl) rfl, ⟨by omega, ?_, ?_, ?_, ?_, ?_, hv.set _ _, hp⟩, by omega⟩
      · rw [List.length_set, hzl]
      · exact hzb.set (by omega)
      · omega
      · exact mul_step hval (by rw [← hg2]; omega) (hset _)
      · rw [List.getElem?_set_ne (by omega)]
        exact htop
    · obtain rfl : j = (dN y).length := by omega
      have hij : i + (dN y).length < (dN x).length + (dN y).length := by omega
      have hijz : i + (dN y).length < z.length := by omega
      (repeat (first | (with_reducible first | apply WP_region | apply thenQ_n | apply thenQ_exit | apply WP_exit) | ((with_reducible apply inBlk_same); exact rfl) | (apply wlp; ((first | apply pv_move | (apply pf_len; exact rfl)) <;> exact rfl); (first | exact fI rfl | exact fS rfl))))
      (apply wlp; (exact pv_add rfl rfl); exact int_eq (b := ((i + (dN y).length : Nat) : Int)) (by rw [i64_in (by omega) (by omega)]; omega))
      (repeat (apply wlp; ((first | apply pv_move | (apply pf_index; exact rfl) | exact pn_32of rfl rfl rfl) <;> (first | exact rfl | assumption)); (first | exact fI rfl | exact fP rfl)))
      (apply wls0; exact st_setL eW z (i + (dN y).length) _ hp 0 rfl hv hijz rfl rfl (fun _ => rfl) rfl rfl (sizeTy_ok rfl); rintro _ w4 ⟨rfl, hp⟩)
      (repeat (with_reducible first | apply WP_region | apply wpl_nil | apply thenQ_n | apply inBlk_n))
      (apply wlp; exact pv_add rfl rfl; exact int_eq (i64_in (by omega) (by omega)))
      (repeat (first | (with_reducible first | apply wpl_nil | apply thenQ_n) | (apply wlp; apply pv_move; exact fI rfl)))
      refine ⟨i + 1, _, put_self (Same.eq (by repeat (first | exact Same.hav | exact Same.refl | refine Same.put rfl ?_ | refine Same.havs rfl ?_))) rfl, ⟨by omega, ?_, ?_, ?_, hv.set _ _, hp⟩, by omega⟩
      · rw [List.length_set, hzl]
      · exact hzb.set (by omega)
      · have h1 := val_set 4294967296 z (i + (dN y).length) (cy % 4294967296) hijz
        have h0 : z[i + (dN y).length] = 0 := by
          rw [List.getElem?_eq_getElem hijz] at htop
          simpa using htop
        rw [h0, Nat.mul_zero, Nat.add_zero, Nat.mod_eq_of_lt hcy, Nat.mul_comm (4294967296 ^ _) cy, hval, Nat.mod_eq_of_lt (dN_lt (Nat.le_refl (dN y).length))] at h1
        rw [Nat.mod_eq_of_lt hcy, h1, mul_row, ← hg]
  · obtain rfl : i = (dN x).length := by omega
    rw [Nat.mod_eq_of_lt (dN_lt (Nat.le_refl _))] at hval
    (repeat (first | (with_reducible first | apply WP_seq | apply WP_region | apply thenQ_n | apply thenQ_exit | apply WP_exit) | ((with_reducible apply inBlk_same); exact rfl) | (apply wlp; apply pv_move; exact fS rfl)))
    (apply wls; exact st_call rfl ent66 (by rw [hzl]; rfl) (c66d hp hv (by unfold maxLen; omega) hzb hval); rintro _ w2 ⟨s', c', rfl, hd, hk⟩)
    (repeat (first | (with_reducible first | apply wpl_nil | apply thenQ_n | apply WP_ret) | (apply wlp; apply pv_assign; exact fS rfl)))
    exact ret_tmp rfl rfl ⟨_, rfl, s', c', rfl, hd, hk⟩
end Go.Proofs.YteklkjnhefnimaaDoor
