/- nat: shiftLeft, shiftRight; conditions: shifts below 32, the list lies in memory and is short. -/
import Derived.Test.YteklkjnhefnimaaDoorDj
namespace Go.Proofs.YteklkjnhefnimaaDoor
open Go.Eng Go.Dig

theorem shl_digit {s e : Nat} (hs : s ≤ 31) : ∃ q, e * 2 ^ s % 4294967296 = q * 2 ^ s ∧ q < 2 ^ (32 - s) := by
  refine ⟨e % 2 ^ (32 - s), ?_, Nat.mod_lt _ (Nat.pow_pos (by decide))⟩
  have e1 : 4294967296 = 2 ^ (32 - s) * 2 ^ s := by rw [← Nat.pow_add, show 32 - s + s = 32 from by omega]
  rw [e1, Nat.mul_mod_mul_right]
theorem shl_fit {s e : Nat} (hs : s ≤ 31) (he : e < 4294967296) : e * 2 ^ s < 9223372036854775808 := by
  have h1 : 2 ^ s ≤ 2 ^ 31 := Nat.pow_le_pow_right (by decide) hs
  have h2 : e * 2 ^ s ≤ 4294967295 * 2 ^ 31 := Nat.mul_le_mul (by omega) h1
  have h3 : 4294967295 * 2 ^ 31 < 9223372036854775808 := by decide
  omega
theorem shl_sum {s q old : Nat} (hs : s ≤ 31) (hq : q < 2 ^ (32 - s)) (ho : old < 2 ^ s) : old + q * 2 ^ s < 4294967296 := by
  have h1 : (q + 1) * 2 ^ s ≤ 2 ^ (32 - s) * 2 ^ s := Nat.mul_le_mul_right _ hq
  rw [← Nat.pow_add, show 32 - s + s = 32 from by omega, Nat.add_mul] at h1
  have : (2 : Nat) ^ 32 = 4294967296 := by decide
  omega
/-- a digit more of a product with a power of two -/
theorem shl_step {b V V1 V2 x s i old q T : Nat} (h : V = x % b ^ i * 2 ^ s) (hT : q + b * (T / b) = T) (hx : T = x / b ^ i % b * 2 ^ s) (h1 : V1 + b ^ i * old = V + b ^ i * (old + q)) (h2 : V2 + b ^ (i + 1) * 0 = V1 + b ^ (i + 1) * (T / b)) : V2 = x % b ^ (i + 1) * 2 ^ s := by
  rw [mod_step, Nat.add_mul]
  have e1 : b ^ i * (x / b ^ i % b) * 2 ^ s = b ^ i * T := by rw [hx, Nat.mul_assoc]
  have e2 : b ^ (i + 1) * (T / b) = b ^ i * (b * (T / b)) := by rw [Nat.pow_succ, Nat.mul_assoc]
  have e3 := congrArg (b ^ i * ·) hT
  simp only [Nat.mul_add] at e3
  rw [Nat.mul_add] at h1
  rw [e1, ← h]
  omega

attribute [local irreducible] PV StepF wpl wpd WP Ret

theorem c76 (x k : Nat) (s : Option Addr) (c : Nat) (w : World) (hx : DA w x s c) (hl : (dN x).length ≤ 100000) (hk : k ≤ 31) :
    Ret Tryd.prog 76 [.slice s (dN x).length c, .int .i64 (k : Int)] w (fun v w' => ∃ g, v = .slice (some ⟨g, 0, none⟩) ((dN x).length + 1) ((dN x).length + 1) ∧ SVL (some ⟨g, 0, none⟩) ((dN x).length + 1) (dg 4294967296 (x * 2 ^ k) ((dN x).length + 1)) ∧ Hp w [] w' [ownL eW 93 1 (some ⟨g, 0, none⟩) ((dN x).length + 1) (dg 4294967296 (x * 2 ^ k) ((dN x).length + 1))]) := by
  have hl1 : (dN x).length < (dN x).length + 1 := by omega
  refine Ret.of_WP Tryd.func76 rfl Tryd.ntmps76 rfl ?_
  have hp := Hp.start (M := []) (w := w)
  (repeat (first | (with_reducible first | apply WP_seq | apply WP_region | apply wpl_nil | apply thenQ_n) | (apply wlp; ((first | apply pv_move | apply pv_assign | (apply pf_len; exact rfl)) <;> exact rfl); (first | exact fI rfl | exact fS rfl))))
  (apply wlp; (exact pv_add rfl rfl); exact int_eq (b := (((dN x).length + 1 : Nat) : Int)) (by rw [i64_in (by omega) (by omega)]; omega))
  (apply wls; exact sf_make eW 0 hp rfl rfl rfl rfl rfl rfl rfl (by omega) rfl; rintro _ w2 ⟨g, rfl, hv, hp⟩)
  (repeat (first | (with_reducible first | apply WP_seq | apply WP_block | apply WP_region | apply wpl_nil | apply thenQ_n) | (apply wlp; ((first | apply pv_move | apply pv_assign | (apply pf_len; exact rfl)) <;> exact rfl); (first | exact fI rfl | exact fS rfl))))
  refine WP_loop2 [6, 7, 8, 15, 16, 17, 18, 19, 20, 21, 22, 23, 24, 25, 26, 27, 28, 29, 30, 31, 32, 33, 34, 35, 36, 37, 38, 39] (fun (i : Nat) (_z : List Nat) F => F.put 15 (.int .i64 i))
    (fun i z w' => i ≤ (dN x).length ∧ z.length = (dN x).length + 1 ∧ Bd 4294967296 z ∧ val 4294967296 z = x % 4294967296 ^ i * 2 ^ k ∧ SVL (some ⟨g, 0, none⟩) ((dN x).length + 1) z ∧ Hp w [] w' [ownL eW 93 1 (some ⟨g, 0, none⟩) ((dN x).length + 1) z])
    (fun i _ => (dN x).length - i) 0 (List.replicate ((dN x).length + 1) 0) (put_self (Same.eq .refl) rfl) ⟨Nat.zero_le _, by simp, zeros_bd (by decide) _, by simp [val_zeros, Nat.mod_one], hv, hp⟩ ?_
  clear hp hv
  rintro u i z w3 ⟨hi, hzl, hzb, hval, hv, hp⟩
  (repeat (first | (with_reducible first | apply WP_seq | apply WP_region | apply wpl_nil | apply thenQ_n) | (apply wlp; (apply pv_lss <;> exact rfl); exact fB rfl)))
  refine WP_cond_d rfl (fun h2 => ?_) (fun h2 => ?_)
  · have hlt : i < (dN x).length := by omega
    have hlt1 : i < (dN x).length + 1 := by omega
    have hlt2 : i + 1 < (dN x).length + 1 := by omega
    have hiz : i < z.length := by omega
    have hiz2 : i + 1 < z.length := by omega
    have hvlt : val 4294967296 z < 4294967296 ^ i * 2 ^ k := by
      rw [hval]
      exact (Nat.mul_lt_mul_right (Nat.pow_pos (by decide))).2 (Nat.mod_lt _ (Nat.pow_pos (by decide)))
    have hold : z[i] < 2 ^ k := Nat.lt_of_mul_lt_mul_left (Nat.lt_of_le_of_lt (val_ge (b := 4294967296) hiz) hvlt)
    have hnext : z[i + 1] = 0 := by
      refine val_high (b := 4294967296) (by decide) (k := i + 1) (Nat.lt_of_lt_of_le hvlt ?_) hiz2 (Nat.le_refl _)
      rw [Nat.pow_succ]
      exact Nat.mul_le_mul_left _ (Nat.le_trans (Nat.pow_le_pow_right (by decide) hk) (by decide))
    obtain ⟨b0, o0, hs0, hc0⟩ := hx.at_.base (by omega)
    have hci := hc0 i _ (List.getElem?_eq_getElem hlt) 0 _ rfl
    have hbd := (dN_bd x).get hlt
    have hg := dN_get hlt
    generalize (dN x)[i] = dx at hci hbd hg
    have hcz := own_elem hp 0 rfl hv (fun _ => rfl) (List.getElem?_eq_getElem hiz) 0 _ rfl
    have hzo := hzb.get hiz
    have hset := fun d => val_set 4294967296 z i d hiz
    generalize z[i] = old at hcz hzo hset hold
    obtain ⟨q, hq, hq2⟩ := shl_digit (e := dx) hk
    have hT := shl_fit hk hbd
    have hsum := shl_sum hk hq2 hold
    have hsh : dx * 2 ^ k < 18446744073709551616 := Nat.lt_trans hT (by decide)
    have hqb : q * 2 ^ k < 4294967296 := Nat.lt_of_le_of_lt (Nat.le_add_left _ old) hsum
    have hTb : dx * 2 ^ k / 4294967296 < 4294967296 := by
      generalize dx * 2 ^ k = T at hT
      omega
    (repeat (first | (with_reducible first | apply WP_seq | apply WP_block | apply WP_region | apply wpl_nil | apply thenQ_n | apply WP_skip) | (apply wlp; ((first | apply pv_move | apply pv_assign | (apply pf_load; exact rfl) | (apply pf_index; exact rfl) | exact pn_64of32 rfl rfl rfl (by assumption)) <;> (first | exact rfl | assumption | exact hp.old0 (by assumption))); (first | exact fI rfl | exact fP rfl))))
    (apply wlp; exact pn_shl64 rfl rfl (by omega) hsh; exact fI rfl)
    (repeat (first | (with_reducible first | apply WP_seq | apply WP_region | apply wpl_nil | apply thenQ_n) | (apply wlp; ((first | apply pv_move | apply pv_assign | (apply pf_load; exact rfl) | (apply pf_index; exact rfl) | exact pn_32of rfl rfl rfl) <;> (first | exact rfl | assumption)); (first | exact fI rfl | exact fP rfl | exact fS rfl))))
    (apply wlp; exact pv_or32 rfl rfl hzo (Nat.mod_lt _ (by decide)); exact int_eq (b := ((old + q * 2 ^ k : Nat) : Int)) (by rw [hq, or_add hold]))
    (repeat (apply wlp; ((apply pf_index; exact rfl) <;> (first | exact rfl | assumption)); exact fP rfl))
    (apply wls0; exact st_setL eW z i _ hp 0 rfl hv hiz rfl rfl (fun _ => rfl) rfl rfl (sizeTy_ok rfl); rintro _ w4 ⟨rfl, hp⟩)
    have hv := hv.set i (old + q * 2 ^ k)
    have hzl2 : (z.set i (old + q * 2 ^ k)).length = (dN x).length + 1 := by rw [List.length_set, hzl]
    have hiz3 : i + 1 < (z.set i (old + q * 2 ^ k)).length := by omega
    have hset2 := fun d => val_set 4294967296 (z.set i (old + q * 2 ^ k)) (i + 1) d hiz3
    have hn2 : (z.set i (old + q * 2 ^ k))[i + 1] = 0 := by
      rw [List.getElem_set_ne (by omega)]
      exact hnext
    rw [hn2] at hset2
    (repeat (first | (with_reducible first | apply WP_region | apply wpl_nil | apply thenQ_n) | (apply wlp; apply pv_move; (first | exact fI rfl | exact fS rfl))))
    (apply wlp; (exact pv_add rfl rfl); exact int_eq (b := ((i + 1 : Nat) : Int)) (by rw [i64_in (by omega) (by omega)]; omega))
    (repeat (apply wlp; apply pv_move; exact fI rfl))
    (apply wlp; exact pn_shr (b := 32) rfl rfl (by decide); exact int_eq (b := ((dx * 2 ^ k / 4294967296 : Nat) : Int)) rfl)
    (apply wlp; exact pn_32of rfl rfl rfl; exact int_eq (b := ((dx * 2 ^ k / 4294967296 : Nat) : Int)) (by rw [Nat.mod_eq_of_lt hTb]))
    (repeat (apply wlp; ((apply pf_index; exact rfl) <;> (first | exact rfl | assumption)); exact fP rfl))
    (apply wls0; exact st_setL eW _ (i + 1) _ hp 0 rfl hv hiz3 rfl rfl (fun _ => rfl) rfl rfl (sizeTy_ok rfl); rintro _ w5 ⟨rfl, hp⟩)
    (repeat (with_reducible first | apply WP_region | apply wpl_nil | apply thenQ_n | apply inBlk_n))
    (apply wlp; exact pv_add rfl rfl; exact int_eq (i64_in (by omega) (by omega)))
    (repeat (first | (with_reducible first | apply wpl_nil | apply thenQ_n) | (apply wlp; apply pv_move; exact fI rfl)))
    refine ⟨i + 1, _, put_self (Same.eq (by repeat (first | exact Same.hav | exact Same.refl | refine Same.put rfl ?_ | refine Same.havs rfl ?_))) rfl, ⟨by omega, ?_, (hzb.set hsum).set hTb, ?_, hv.set _ _, hp⟩, by omega⟩
    · rw [List.length_set, hzl2]
    · refine shl_step hval (T := dx * 2 ^ k) (q := q * 2 ^ k) ?_ (by rw [hg]) (hset _) (hset2 _)
      rw [← hq]
      exact Nat.mod_add_div _ _
  · obtain rfl : i = (dN x).length := by omega
    rw [Nat.mod_eq_of_lt (dN_lt (Nat.le_refl _))] at hval
    have hz : z = dg 4294967296 (x * 2 ^ k) ((dN x).length + 1) := by rw [← hval, ← hzl]; exact dg_of_val hzb
    subst hz
    (repeat (first | (with_reducible first | apply WP_seq | apply WP_region | apply wpl_nil | apply thenQ_n | apply thenQ_exit | apply WP_ret | apply WP_exit) | ((with_reducible apply inBlk_same); exact rfl) | (apply wlp; (first | apply pv_move | apply pv_assign); exact fS rfl)))
    exact ret_tmp rfl rfl ⟨_, rfl, g, rfl, hv, hp⟩
end Go.Proofs.YteklkjnhefnimaaDoor
