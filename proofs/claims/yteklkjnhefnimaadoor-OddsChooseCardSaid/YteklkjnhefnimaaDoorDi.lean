/- nat: division by one digit; conditions: a divisor other than 0, the list lies in memory and is short. -/
import Derived.Test.YteklkjnhefnimaaDoorDh
namespace Go.Proofs.YteklkjnhefnimaaDoor
open Go.Eng Go.Dig

theorem quo_step {b x d j r : Nat} (hd : 0 < d) (hr : r = x / b ^ (j + 1) % d) : (r * b + x / b ^ j % b) / d + b * (x / b ^ (j + 1) / d) = x / b ^ j / d ∧ (r * b + x / b ^ j % b) % d = x / b ^ j % d := by
  have h1 := div_step b x j
  generalize x / b ^ (j + 1) = y at *
  generalize x / b ^ j % b = e at *
  have h2 : x / b ^ j = (r * b + e) + d * (b * (y / d)) := by
    rw [h1, hr]
    have := Nat.div_add_mod y d
    have h3 : b * y = b * (d * (y / d) + y % d) := by rw [this]
    rw [h3, Nat.mul_add, Nat.mul_comm (y % d) b, ← Nat.mul_assoc, ← Nat.mul_assoc, Nat.mul_comm b d]
    omega
  rw [h2, Nat.add_mul_div_left _ _ hd, Nat.add_mul_mod_self_left]
  exact ⟨rfl, rfl⟩
theorem quo_fit {r e d b : Nat} (hr : r < d) (he : e < b) : (r * b + e) / d < b := by
  rw [Nat.div_lt_iff_lt_mul (by omega)]
  have : (r + 1) * b ≤ d * b := Nat.mul_le_mul_right b hr
  rw [Nat.add_mul, Nat.mul_comm d b] at this
  omega
theorem sh_fit {r q e : Nat} (hr : r < q) (hq : q < 4294967296) (he : e < 4294967296) : r * 4294967296 + e < 18446744073709551616 := by omega
section
variable {n : Nat} {F : Fr} {w : World} {d : Option Tmp} {ty : TypeId} {pos : String} {aft : Array Edge} {g : Option (Nat × Bool)} {x y : Operand} {t t' : Nat}
theorem pn_quo64 {a b : Nat} (hx : ev n F x = .int .u64 (a : Int)) (hy : ev n F y = .int .u64 (b : Int)) (hb : 0 < b) (ha : a < 18446744073709551616) : PV Tryd.prog n w F ⟨d, .binOp .quo t x y t', ty, pos, aft, g⟩ (.int .u64 ((a / b : Nat) : Int)) := by
  have h := pv_quo (P := Tryd.prog) (w := w) (d := d) (ty := ty) (pos := pos) (aft := aft) (g := g) (t := t) (t' := t') hx hy (by omega)
  rwa [Int.tdiv_eq_ediv_of_nonneg (by omega), ← Int.natCast_ediv, u64_in (Nat.lt_of_le_of_lt (Nat.div_le_self a b) ha)] at h
theorem pn_rem64 {a b : Nat} (hx : ev n F x = .int .u64 (a : Int)) (hy : ev n F y = .int .u64 (b : Int)) (hb : 0 < b) : PV Tryd.prog n w F ⟨d, .binOp .rem t x y t', ty, pos, aft, g⟩ (.int .u64 ((a % b : Nat) : Int)) := by
  have h := pv_rem (P := Tryd.prog) (w := w) (d := d) (ty := ty) (pos := pos) (aft := aft) (g := g) (t := t) (t' := t') hx hy (by omega)
  rwa [int_rem] at h
end

attribute [local irreducible] PV StepF wpl wpd WP Ret

theorem c74 (x q : Nat) (s : Option Addr) (c : Nat) (w : World) (hx : DA w x s c) (hl : (dN x).length ≤ 100000) (hq : 0 < q) (hq2 : q < 4294967296) :
    Ret Tryd.prog 74 [.slice s (dN x).length c, .int .u32 (q : Int)] w (fun v w' => ∃ s' c', v = .tuple #[.slice s' (dN (x / q)).length c', .int .u32 ((x % q : Nat) : Int)] ∧ DA w' (x / q) s' c' ∧ Keeps [] w w') := by
  refine Ret.of_WP Tryd.func74 rfl Tryd.ntmps74 rfl ?_
  have hp := Hp.start (M := []) (w := w)
  (repeat (first | (with_reducible first | apply WP_seq | apply WP_region | apply wpl_nil | apply thenQ_n) | (apply wlp; ((first | apply pv_move | apply pv_assign | (apply pf_len; exact rfl)) <;> exact rfl); (first | exact fI rfl | exact fS rfl))))
  (apply wls; exact sf_make eW 0 hp rfl rfl rfl rfl rfl rfl rfl (by omega) rfl; rintro _ w2 ⟨g, rfl, hv, hp⟩)
  (repeat (first | (with_reducible first | apply WP_seq | apply WP_region | apply wpl_nil | apply thenQ_n) | (apply wlp; ((first | apply pv_move | apply pv_assign | (apply pf_len; exact rfl)) <;> exact rfl); (first | exact fI rfl | exact fS rfl))))
  (apply wlp; exact pv_sub rfl rfl; exact int_eq (i64_in (by omega) (by omega)))
  (repeat (first | (with_reducible first | apply WP_block | apply wpl_nil | apply thenQ_n) | (apply wlp; apply pv_assign; exact fI rfl)))
  refine WP_loop3 [7, 8, 15, 16, 17, 18, 19, 20, 21, 22, 23, 24, 25, 26, 27, 28, 29, 30, 31, 32, 33, 34, 35, 36, 37, 38] (fun (k r : Nat) (_z : List Nat) F => (F.put 8 (.int .i64 ((k : Int) - 1))).put 7 (.int .u64 (r : Int)))
    (fun k r z w' => k ≤ (dN x).length ∧ z.length = (dN x).length ∧ Bd 4294967296 z ∧ r = x / 4294967296 ^ k % q ∧ val 4294967296 (z.drop k) = x / 4294967296 ^ k / q ∧ SVL (some ⟨g, 0, none⟩) (dN x).length z ∧ Hp w [] w' [ownL eW 93 1 (some ⟨g, 0, none⟩) (dN x).length z])
    (fun k _ _ => k) (dN x).length 0 (List.replicate (dN x).length 0) (put_self (put_self (Same.eq .refl) rfl) rfl) ⟨Nat.le_refl _, by simp, zeros_bd (by decide) _, ?_, ?_, hv, hp⟩ ?_
  · rw [Nat.div_eq_of_lt (dN_lt (Nat.le_refl _)), Nat.zero_mod]
  · rw [Nat.div_eq_of_lt (dN_lt (Nat.le_refl _)), Nat.zero_div, List.drop_of_length_le (by simp)]
    rfl
  clear hp hv
  rintro u k r z w3 ⟨hi, hzl, hzb, hr, hval, hv, hp⟩
  (repeat (first | (with_reducible first | apply WP_seq | apply WP_region | apply wpl_nil | apply thenQ_n) | (apply wlp; ((first | apply pv_move | apply pv_geq) <;> exact rfl); (first | exact fI rfl | exact fB rfl))))
  refine WP_cond_d rfl (fun h2 => ?_) (fun h2 => ?_)
  · obtain ⟨j, rfl⟩ : ∃ j, k = j + 1 := ⟨k - 1, by omega⟩
    have hlt : j < (dN x).length := by omega
    have hiz : j < z.length := by omega
    have hrq : r < q := by rw [hr]; exact Nat.mod_lt _ hq
    obtain ⟨b0, o0, hs0, hc0⟩ := hx.at_.base (by omega)
    have hci := hc0 j _ (List.getElem?_eq_getElem hlt) 0 _ rfl
    have hbd := (dN_bd x).get hlt
    have hg := dN_get hlt
    generalize (dN x)[j] = dx at hci hbd hg
    obtain ⟨hs1, hs2⟩ := quo_step hq hr
    rw [← hg] at hs1 hs2
    have hqf := quo_fit hrq hbd
    have hsh : r * 2 ^ 32 < 18446744073709551616 := by
      have h := sh_fit (e := 0) hrq hq2 (by decide)
      rw [Nat.add_zero] at h
      rw [show (2 : Nat) ^ 32 = 4294967296 from by decide]
      exact h
    have ht64 : r * 4294967296 + dx < 18446744073709551616 := sh_fit hrq hq2 hbd
    have hdx64 : dx < 18446744073709551616 := by omega
    have ej : ((j + 1 : Nat) : Int) - 1 = (j : Int) := by omega
    rw [ej]
    (repeat (first | (with_reducible first | apply WP_seq | apply WP_block | apply WP_region | apply thenQ_n | apply WP_skip) | (apply wlp; apply pv_move; exact fI rfl)))
    (apply wlp; exact pn_shl64 (b := 32) rfl rfl (by decide) hsh; exact fI rfl)
    (repeat (apply wlp; ((first | apply pv_move | (apply pf_load; exact rfl) | (apply pf_index; exact rfl) | exact pn_64of32 rfl rfl rfl (by assumption)) <;> (first | exact rfl | assumption | exact hp.old0 (by assumption))); (first | exact fI rfl | exact fP rfl | exact fS rfl)))
    (apply wlp; exact pv_or64 rfl rfl hsh hdx64; exact int_eq (b := ((r * 4294967296 + dx : Nat) : Int)) (by rw [Nat.or_comm, or_add (k := 32) hbd, Nat.add_comm]))
    (repeat (first | (with_reducible first | apply WP_seq | apply WP_region | apply wpl_nil | apply thenQ_n) | (apply wlp; (first | apply pv_move | apply pv_assign | exact pn_64of32 rfl rfl rfl (by assumption)); (first | exact fI rfl | exact fS rfl))))
    (apply wlp; exact pn_quo64 rfl rfl hq ht64; exact fI rfl)
    (apply wlp; exact pn_32of rfl rfl rfl; exact int_eq (b := (((r * 4294967296 + dx) / q : Nat) : Int)) (by rw [Nat.mod_eq_of_lt hqf]))
    (repeat (apply wlp; ((apply pf_index; exact rfl) <;> (first | exact rfl | assumption)); exact fP rfl))
    (apply wls0; exact st_setL eW z j _ hp 0 rfl hv hiz rfl rfl (fun _ => rfl) rfl rfl (sizeTy_ok rfl); rintro _ w4 ⟨rfl, hp⟩)
    (repeat (first | (with_reducible first | apply WP_region | apply wpl_nil | apply thenQ_n) | (apply wlp; (first | apply pv_move | exact pn_64of32 rfl rfl rfl (by assumption)); exact fI rfl)))
    (apply wlp; exact pn_rem64 rfl rfl hq; exact fI rfl)
    (repeat (first | (with_reducible first | apply WP_region | apply wpl_nil | apply thenQ_n | apply inBlk_n) | (apply wlp; (first | apply pv_move | apply pv_assign); exact fI rfl)))
    (apply wlp; exact pv_sub rfl rfl; exact int_eq (i64_in (by omega) (by omega)))
    (repeat (first | (with_reducible first | apply wpl_nil | apply thenQ_n) | (apply wlp; apply pv_assign; exact fI rfl)))
    refine ⟨j, _, _, put_self (put_self (Same.eq (by repeat (first | exact Same.hav | exact Same.refl | refine Same.put rfl ?_ | refine Same.havs rfl ?_))) rfl) rfl, ⟨by omega, ?_, hzb.set hqf, hs2, ?_, hv.set _ _, hp⟩, by omega⟩
    · rw [List.length_set, hzl]
    · rw [drop_set hiz, val, hval]
      exact hs1
  · obtain rfl : k = 0 := by omega
    rw [Nat.pow_zero, Nat.div_one] at hr hval
    rw [List.drop_zero] at hval
    have hrq : r < q := by rw [hr]; exact Nat.mod_lt _ hq
    (repeat (first | (with_reducible first | apply WP_seq | apply WP_region | apply thenQ_n | apply thenQ_exit | apply WP_exit) | ((with_reducible apply inBlk_same); exact rfl) | (apply wlp; apply pv_move; exact fS rfl)))
    (apply wls; exact st_call rfl ent66 (by rw [hzl]; rfl) (c66d hp hv (by unfold maxLen; omega) hzb hval); rintro _ w2 ⟨s', c', rfl, hd, hk⟩)
    (repeat (first | (with_reducible first | apply wpl_nil | apply thenQ_n | apply WP_ret) | (apply wlp; (first | apply pv_move | apply pv_assign | exact pn_32of rfl rfl rfl); (first | exact fI rfl | exact fS rfl))))
    refine ret_tmp2 (v := .slice s' (dN (x / q)).length c') (v' := .int .u32 ((r % 4294967296 : Nat) : Int)) rfl rfl rfl ⟨_, rfl, s', c', ?_, hd, hk⟩
    rw [← hr, Nat.mod_eq_of_lt (show r < 4294967296 by omega)]
end Go.Proofs.YteklkjnhefnimaaDoor
