/- nat: shiftRight; conditions: shifts below 32, the list lies in memory and is short. -/
import Derived.Test.YteklkjnhefnimaaDoorDk
namespace Go.Proofs.YteklkjnhefnimaaDoor
open Go.Eng Go.Dig

theorem l_get {b : Nat} {l : List Nat} (h : Bd b l) {i : Nat} (hi : i < l.length) : l[i] = val b l / b ^ i % b := by
  have h1 := dg_get b l.length (val b l) i hi
  rw [← dg_of_val h, List.getElem?_eq_getElem hi] at h1
  simpa using h1
theorem shr_digit {V i k : Nat} (hk : k ≤ 31) : (V / 4294967296 ^ i % 4294967296 + V / 4294967296 ^ (i + 1) % 4294967296 * 2 ^ 32) / 2 ^ k % 4294967296 = V / 2 ^ k / 4294967296 ^ i % 4294967296 := by
  have h1 : V / 4294967296 ^ i % 4294967296 + V / 4294967296 ^ (i + 1) % 4294967296 * 2 ^ 32 = V / 4294967296 ^ i % (4294967296 * 4294967296) := by
    rw [Nat.mod_mul, Nat.pow_succ, ← Nat.div_div_eq_div_mul, Nat.mul_comm (_ % _) (2 ^ 32)]
  have e : 4294967296 * 4294967296 = 2 ^ k * (2 ^ (32 - k) * 4294967296) := by
    rw [← Nat.mul_assoc, ← Nat.pow_add, show k + (32 - k) = 32 from by omega]
  rw [h1, e, Nat.mod_mul_right_div_self, Nat.mod_mul_left_mod, Nat.div_div_eq_div_mul, Nat.div_div_eq_div_mul, Nat.mul_comm]
theorem dg_take {b n i : Nat} (z : List Nat) (h : z.take i = dg b n i) (hi : i < z.length) : (z.set i (n / b ^ i % b)).take (i + 1) = dg b n (i + 1) := by
  rw [take_set hi, h, dg_snoc]

attribute [local irreducible] PV StepF wpl wpd WP Ret

theorem c80 (l : List Nat) (k : Nat) (s : Option Addr) (c : Nat) (w : World) (hs : SlAt w 1 eW s l) (hb : Bd 4294967296 l) (hl : l.length ≤ 100000) (hk : k ≤ 31) :
    Ret Tryd.prog 80 [.slice s l.length c, .int .i64 (k : Int)] w (fun v w' => ∃ g, v = .slice (some ⟨g, 0, none⟩) l.length l.length ∧ SVL (some ⟨g, 0, none⟩) l.length (dg 4294967296 (val 4294967296 l / 2 ^ k) l.length) ∧ Hp w [] w' [ownL eW 93 1 (some ⟨g, 0, none⟩) l.length (dg 4294967296 (val 4294967296 l / 2 ^ k) l.length)]) := by
  refine Ret.of_WP Tryd.func80 rfl Tryd.ntmps80 rfl ?_
  have hp := Hp.start (M := []) (w := w)
  (repeat (first | (with_reducible first | apply WP_seq | apply WP_region | apply wpl_nil | apply thenQ_n) | (apply wlp; ((first | apply pv_move | apply pv_assign | (apply pf_len; exact rfl)) <;> exact rfl); (first | exact fI rfl | exact fS rfl))))
  (apply wls; exact sf_make eW 0 hp rfl rfl rfl rfl rfl rfl rfl (by omega) rfl; rintro _ w2 ⟨g, rfl, hv, hp⟩)
  (repeat (first | (with_reducible first | apply WP_seq | apply WP_block | apply WP_region | apply wpl_nil | apply thenQ_n) | (apply wlp; ((first | apply pv_move | apply pv_assign | (apply pf_len; exact rfl)) <;> exact rfl); (first | exact fI rfl | exact fS rfl))))
  refine WP_loop2 [6, 7, 13, 14, 15, 16, 17, 18, 19, 20, 21, 22, 23, 24, 25, 26, 27, 28, 29, 30, 31, 32, 33, 34, 35, 36, 37, 38, 39, 40, 41, 42] (fun (i : Nat) (_z : List Nat) F => F.put 13 (.int .i64 i))
    (fun i z w' => i ≤ l.length ∧ z.length = l.length ∧ z.take i = dg 4294967296 (val 4294967296 l / 2 ^ k) i ∧ SVL (some ⟨g, 0, none⟩) l.length z ∧ Hp w [] w' [ownL eW 93 1 (some ⟨g, 0, none⟩) l.length z])
    (fun i _ => l.length - i) 0 (List.replicate l.length 0) (put_self (Same.eq .refl) rfl) ⟨Nat.zero_le _, by simp, rfl, hv, hp⟩ ?_
  clear hp hv
  rintro u i z w3 ⟨hi, hzl, hval, hv, hp⟩
  (repeat (first | (with_reducible first | apply WP_seq | apply WP_region | apply wpl_nil | apply thenQ_n) | (apply wlp; (apply pv_lss <;> exact rfl); exact fB rfl)))
  refine WP_cond_d rfl (fun h2 => ?_) (fun h2 => ?_)
  · have hlt : i < l.length := by omega
    have hiz : i < z.length := by omega
    obtain ⟨b0, o0, hs0, hc0⟩ := hs.base (by omega)
    have hci := hc0 i _ (List.getElem?_eq_getElem hlt) 0 _ rfl
    have hbd := hb.get hlt
    have hg := l_get hb hlt
    generalize l[i] = dx at hci hbd hg
    have hdig := shr_digit (V := val 4294967296 l) (i := i) hk
    rw [← hg] at hdig
    have hdx : dx < 2 ^ 32 := hbd
    have hdx64 : dx < 18446744073709551616 := by omega
    (repeat (first | (with_reducible first | apply WP_seq | apply WP_block | apply WP_region | apply wpl_nil | apply thenQ_n | apply WP_skip) | (apply wlp; ((first | apply pv_move | apply pv_assign | (apply pf_load; exact rfl) | (apply pf_index; exact rfl) | exact pn_64of32 rfl rfl rfl (by assumption)) <;> (first | exact rfl | assumption | exact hp.old0 (by assumption))); (first | exact fI rfl | exact fP rfl | exact fS rfl))))
    (apply wlp; (exact pv_add rfl rfl); exact int_eq (b := ((i + 1 : Nat) : Int)) (by rw [i64_in (by omega) (by omega)]; omega))
    (repeat (first | (with_reducible first | apply wpl_nil | apply thenQ_n) | (apply wlp; ((first | apply pv_move | (apply pf_len; exact rfl) | apply pv_lss) <;> exact rfl); (first | exact fI rfl | exact fB rfl | exact fS rfl))))
    refine WP_cond_d rfl (fun h3 => ?_) (fun h3 => ?_)
    · have hlt2 : i + 1 < l.length := by omega
      have hcj := hc0 (i + 1) _ (List.getElem?_eq_getElem hlt2) 0 _ rfl
      have hbd2 := hb.get hlt2
      have hg2 := l_get hb hlt2
      generalize l[i + 1] = dy at hcj hbd2 hg2
      rw [← hg2] at hdig
      have hsh : dy * 2 ^ 32 < 18446744073709551616 := by
        rw [show (2 : Nat) ^ 32 = 4294967296 from by decide]
        omega
      (repeat (first | with_reducible apply WP_region | (apply wlp; apply pv_move; (first | exact fI rfl | exact fS rfl))))
      (apply wlp; (exact pv_add rfl rfl); exact int_eq (b := ((i + 1 : Nat) : Int)) (by rw [i64_in (by omega) (by omega)]; omega))
      (repeat (apply wlp; ((first | (apply pf_load; exact rfl) | (apply pf_index; exact rfl) | exact pn_64of32 rfl rfl rfl (by assumption)) <;> (first | exact rfl | assumption | exact hp.old0 (by assumption))); (first | exact fI rfl | exact fP rfl)))
      (apply wlp; exact pn_shl64 (b := 32) rfl rfl (by decide) hsh; exact fI rfl)
      (apply wlp; exact pv_or64 rfl rfl hdx64 hsh; exact int_eq (b := ((dx + dy * 2 ^ 32 : Nat) : Int)) (by rw [or_add hdx]))
      (repeat (first | (with_reducible first | apply WP_region | apply wpl_nil | apply thenQ_n) | (apply wlp; (first | apply pv_move | apply pv_assign); (first | exact fI rfl | exact fS rfl))))
      (apply wlp; exact pn_shr rfl rfl (by show k ≤ 64; omega); exact fI rfl)
      (apply wlp; exact pn_32of rfl rfl rfl; exact int_eq (b := ((val 4294967296 l / 2 ^ k / 4294967296 ^ i % 4294967296 : Nat) : Int)) (by rw [hdig]))
      (repeat (apply wlp; ((apply pf_index; exact rfl) <;> (first | exact rfl | assumption)); exact fP rfl))
      (apply wls0; exact st_setL eW z i _ hp 0 rfl hv hiz rfl rfl (fun _ => rfl) rfl rfl (sizeTy_ok rfl); rintro _ w4 ⟨rfl, hp⟩)
      (repeat (with_reducible first | apply WP_region | apply wpl_nil | apply thenQ_n | apply inBlk_n))
      (apply wlp; exact pv_add rfl rfl; exact int_eq (i64_in (by omega) (by omega)))
      (repeat (first | (with_reducible first | apply wpl_nil | apply thenQ_n) | (apply wlp; apply pv_move; exact fI rfl)))
      exact ⟨i + 1, _, put_self (Same.eq (by repeat (first | exact Same.hav | exact Same.refl | refine Same.put rfl ?_ | refine Same.havs rfl ?_))) rfl, ⟨by omega, by rw [List.length_set, hzl], dg_take z hval hiz, hv.set _ _, hp⟩, by omega⟩
    · have hz0 : val 4294967296 l / 4294967296 ^ (i + 1) % 4294967296 = 0 := by
        have h4 := val_lt hb
        rw [show l.length = i + 1 from by omega] at h4
        rw [Nat.div_eq_of_lt h4, Nat.zero_mod]
      rw [hz0, Nat.zero_mul, Nat.add_zero] at hdig
      (repeat (first | (with_reducible first | apply WP_region | apply thenQ_n | apply WP_skip) | (apply wlp; apply pv_move; (first | exact fI rfl | exact fS rfl))))
      (apply wlp; exact pn_shr rfl rfl (by show k ≤ 64; omega); exact fI rfl)
      (apply wlp; exact pn_32of rfl rfl rfl; exact int_eq (b := ((val 4294967296 l / 2 ^ k / 4294967296 ^ i % 4294967296 : Nat) : Int)) (by rw [hdig]))
      (repeat (apply wlp; ((apply pf_index; exact rfl) <;> (first | exact rfl | assumption)); exact fP rfl))
      (apply wls0; exact st_setL eW z i _ hp 0 rfl hv hiz rfl rfl (fun _ => rfl) rfl rfl (sizeTy_ok rfl); rintro _ w4 ⟨rfl, hp⟩)
      (repeat (with_reducible first | apply WP_region | apply wpl_nil | apply thenQ_n | apply inBlk_n))
      (apply wlp; exact pv_add rfl rfl; exact int_eq (i64_in (by omega) (by omega)))
      (repeat (first | (with_reducible first | apply wpl_nil | apply thenQ_n) | (apply wlp; apply pv_move; exact fI rfl)))
      exact ⟨i + 1, _, put_self (Same.eq (by repeat (first | exact Same.hav | exact Same.refl | refine Same.put rfl ?_ | refine Same.havs rfl ?_))) rfl, ⟨by omega, by rw [List.length_set, hzl], dg_take z hval hiz, hv.set _ _, hp⟩, by omega⟩
  · obtain rfl : i = l.length := by omega
    have hz : z = dg 4294967296 (val 4294967296 l / 2 ^ k) l.length := by rw [← hval, List.take_of_length_le (by omega)]
    subst hz
    (repeat (first | (with_reducible first | apply WP_seq | apply WP_region | apply wpl_nil | apply thenQ_n | apply thenQ_exit | apply WP_ret | apply WP_exit) | ((with_reducible apply inBlk_same); exact rfl) | (apply wlp; (first | apply pv_move | apply pv_assign); exact fS rfl)))
    exact ret_tmp rfl rfl ⟨_, rfl, g, rfl, hv, hp⟩
end Go.Proofs.YteklkjnhefnimaaDoor
