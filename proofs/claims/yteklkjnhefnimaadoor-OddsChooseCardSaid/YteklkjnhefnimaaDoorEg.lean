/- ratio: Mul, Cmp, Add; conditions: numbers that are not negative, in lowest terms and short. -/
import Derived.Test.YteklkjnhefnimaaDoorEf
namespace Go.Proofs.YteklkjnhefnimaaDoor
open Go.Eng Go.Dig

/-- a number that is shorter -/
def Sm (x : Nat) : Prop := ∃ k, k ≤ 1000 ∧ x < 2 ^ k
/-- a rational number as an argument -/
structure RF (n d : Nat) : Prop where
  num : Sm n
  den : Sm d
  pos : 0 < d
  low : Nat.gcd n d = 1
theorem Sm.fit {n : Nat} (h : Sm n) : Fit n := by
  obtain ⟨k, h1, h2⟩ := h
  exact ⟨k, by omega, h2⟩
theorem RF.fn {n d : Nat} (h : RF n d) : Fit n := h.num.fit
theorem RF.fd {n d : Nat} (h : RF n d) : Fit d := h.den.fit
theorem mul_fit2 {a b : Nat} (ha : Sm a) (hb : Sm b) : Fit (a * b) := by
  obtain ⟨k, h1, h2⟩ := ha
  obtain ⟨q, h3, h4⟩ := hb
  refine Fit.of (k := k + q) ?_ (by omega)
  rw [Nat.pow_add]
  exact Nat.mul_lt_mul'' h2 h4
theorem add_fit2 {a b c d : Nat} (ha : Sm a) (hb : Sm b) (hc : Sm c) (hd : Sm d) : Fit (a * b + c * d) := by
  obtain ⟨k, h1, h2⟩ := ha
  obtain ⟨q, h3, h4⟩ := hb
  obtain ⟨k2, h5, h6⟩ := hc
  obtain ⟨q2, h7, h8⟩ := hd
  have e1 : a * b < 2 ^ (k + q) := by rw [Nat.pow_add]; exact Nat.mul_lt_mul'' h2 h4
  have e2 : c * d < 2 ^ (k2 + q2) := by rw [Nat.pow_add]; exact Nat.mul_lt_mul'' h6 h8
  have e3 : 2 ^ (k + q) ≤ 2 ^ max (k + q) (k2 + q2) := Nat.pow_le_pow_right (by decide) (by omega)
  have e4 : 2 ^ (k2 + q2) ≤ 2 ^ max (k + q) (k2 + q2) := Nat.pow_le_pow_right (by decide) (by omega)
  refine Fit.of (k := max (k + q) (k2 + q2) + 1) ?_ (by omega)
  rw [Nat.pow_succ]
  omega
theorem pv_beql {P : Program} {n : Nat} {F : Fr} {w : World} {d : Option Tmp} {ty : TypeId} {pos : String} {aft : Array Edge} {g : Option (Nat × Bool)} {x y : Operand} {t t' : Nat} {a b : Bool} (ht : P.underlying t = some .bool) (hx : ev n F x = .bool a) (hy : ev n F y = .bool b) : PV P n w F ⟨d, .binOp .eql t x y t', ty, pos, aft, g⟩ (.bool (a == b)) := by
  have h := eq_bool (P := P) (w := w) (a := a) (b := b) ht
  simp [PV, execOp, hx, hy, eqGuard, binOp, h]

attribute [local irreducible] PV StepF wpl wpd WP Ret
attribute [local irreducible] Fit RB

theorem c31 (a e c d : Nat) (w : World) (h1 : RF a e) (h2 : RF c d) : Ret Tryd.prog 31 [RV a e, RV c d] w (fun v w' => v = RV (a * c / Nat.gcd (a * c) (e * d)) (e * d / Nat.gcd (a * c) (e * d)) ∧ Keeps [] w w') := by
  have hf1 : Fit (a * c) := mul_fit2 h1.num h2.num
  have hf2 : Fit (e * d) := mul_fit2 h1.den h2.den
  have hbd : 0 < e * d := Nat.mul_pos h1.pos h2.pos
  refine Ret.of_WP Tryd.func31 rfl Tryd.ntmps31 rfl ?_
  have hp := Hp.start (M := []) (w := w)
  (repeat (first | (with_reducible first | apply WP_seq | apply WP_region | apply wpl_nil | apply thenQ_n) | (apply wls; (first | exact sbox3 hp rfl | exact salloc3 hp (zeroTy_ok rfl)); rintro _ w ⟨b, rfl, hp⟩)))
  refine WP_drawS mixed (by kernel_rfl) (fun w' => Hp _ _ w' _) hp.drew ?_
  have hp := hp.drew
  (repeat ((apply wdp; exact rfl); (intro w hp; intros; ((apply pf_loadb; exact rfl) <;> (first | exact rfl | exact hp.agg_blk 2 rfl rfl))); (intros; exact fA3 rfl)))
  (apply wds; exact rfl; exact st_call rfl ent60 rfl (c60 a e _ h1.fn h1.fd h1.pos h1.low); rintro _ w1 ⟨rfl, hk⟩; have hp := hp.call hk; refine ⟨hp, ?_⟩)
  (repeat ((apply wdp; exact rfl); (intro w hp; intros; ((apply pf_loadb; exact rfl) <;> (first | exact rfl | exact hp.agg_blk 1 rfl rfl))); (intros; exact fA3 rfl)))
  (apply wds; exact rfl; exact st_call rfl ent60 rfl (c60 c d _ h2.fn h2.fd h2.pos h2.low); rintro _ w2 ⟨rfl, hk⟩; have hp := hp.call hk; refine ⟨hp, ?_⟩)
  (apply wds0S; exact rfl; exact rfl; exact sstore3 hp 2 rfl rfl rfl rfl (sizeTy_ok rfl) rfl; rintro _ w3 ⟨rfl, hp⟩)
  (apply wds0S; exact rfl; exact rfl; exact sstore3 hp 1 rfl rfl rfl rfl (sizeTy_ok rfl) rfl; rintro _ w4 ⟨rfl, hp⟩)
  refine wpd_nil ?_
  have hp := hp.norm 1 [.bool false, .string (ofN c), .string (ofN d)] rfl rfl
  have hp := hp.norm 2 [.bool false, .string (ofN a), .string (ofN e)] rfl rfl
  (repeat (with_reducible first | apply WP_seq | apply thenQ_n))
  refine WP_drawS mixed (by kernel_rfl) (fun w' => Hp _ _ w' _) hp.drew ?_
  have hp := hp.drew
  (repeat ((apply wdp; exact rfl); (intro w hp; intros; ((first | apply pf_field | (apply pf_load; exact rfl)) <;> (first | exact rfl | exact hp.cell 1 rfl rfl | exact hp.cell 2 rfl rfl))); (intros; (first | exact fB rfl | exact fP rfl))))
  (apply wdp; exact rfl; (intro w hp; exact pv_bneq Tryd.underlying4 rfl rfl); exact bool_eq (b := false) rfl)
  (repeat ((apply wdp; exact rfl); (intro w hp; intros; ((first | apply pf_field | (apply pf_load; exact rfl)) <;> (first | exact rfl | exact hp.cell 1 rfl rfl | exact hp.cell 2 rfl rfl))); (intros; (first | exact fP rfl | exact fT rfl))))
  (apply wds; exact rfl; exact st_call rfl ent18 rfl (c18 a c _ h1.fn h2.fn); rintro _ w5 ⟨rfl, hk⟩; have hp := hp.call hk; refine ⟨hp, ?_⟩)
  (repeat ((apply wdp; exact rfl); (intro w hp; intros; ((first | apply pf_field | (apply pf_load; exact rfl)) <;> (first | exact rfl | exact hp.cell 1 rfl rfl | exact hp.cell 2 rfl rfl))); (intros; (first | exact fP rfl | exact fT rfl))))
  (apply wds; exact rfl; exact st_call rfl ent18 rfl (c18 e d _ h1.fd h2.fd); rintro _ w6 ⟨rfl, hk⟩; have hp := hp.call hk; refine ⟨hp, ?_⟩)
  skip
  (apply wds; exact rfl; exact st_call rfl ent61 rfl (c61 (a * c) (e * d) _ hf1 hf2 hbd); rintro _ w7 ⟨rfl, hk⟩; have hp := hp.call hk; refine ⟨hp, ?_⟩)
  (apply wds0S; exact rfl; exact rfl; exact sstore3 hp 0 rfl rfl rfl rfl (sizeTy_ok rfl) rfl; rintro _ w8 ⟨rfl, hp⟩)
  refine wpd_nil ?_
  (repeat (with_reducible first | apply thenQ_n | apply WP_ret))
  exact ret_cell rfl rfl rfl rfl (hp.agg_blk 0 rfl rfl) ⟨_, rfl, rfl, hp.keeps⟩
theorem c35 (a e c d : Nat) (w : World) (h1 : RF a e) (h2 : RF c d) : Ret Tryd.prog 35 [RV a e, RV c d] w (fun v w' => v = .int .i64 (if a * d < c * e then -1 else if a * d = c * e then 0 else 1) ∧ Keeps [] w w') := by
  have hf1 : Fit (a * d) := mul_fit2 h1.num h2.den
  have hf2 : Fit (c * e) := mul_fit2 h2.num h1.den
  refine Ret.of_WP Tryd.func35 rfl Tryd.ntmps35 rfl ?_
  have hp := Hp.start (M := []) (w := w)
  (repeat (first | (with_reducible first | apply WP_seq | apply WP_region | apply wpl_nil | apply thenQ_n) | (apply wlp; apply pv_assign; exact fI rfl) | (apply wls; exact sbox3 hp rfl; rintro _ w ⟨b, rfl, hp⟩)))
  refine WP_drawS mixed (by kernel_rfl) (fun w' => Hp _ _ w' _) hp.drew ?_
  have hp := hp.drew
  (repeat ((apply wdp; exact rfl); (intro w hp; intros; ((apply pf_loadb; exact rfl) <;> (first | exact rfl | exact hp.agg_blk 1 rfl rfl))); (intros; exact fA3 rfl)))
  (apply wds; exact rfl; exact st_call rfl ent60 rfl (c60 a e _ h1.fn h1.fd h1.pos h1.low); rintro _ w1 ⟨rfl, hk⟩; have hp := hp.call hk; refine ⟨hp, ?_⟩)
  (repeat ((apply wdp; exact rfl); (intro w hp; intros; ((apply pf_loadb; exact rfl) <;> (first | exact rfl | exact hp.agg_blk 0 rfl rfl))); (intros; exact fA3 rfl)))
  (apply wds; exact rfl; exact st_call rfl ent60 rfl (c60 c d _ h2.fn h2.fd h2.pos h2.low); rintro _ w2 ⟨rfl, hk⟩; have hp := hp.call hk; refine ⟨hp, ?_⟩)
  (apply wds0S; exact rfl; exact rfl; exact sstore3 hp 1 rfl rfl rfl rfl (sizeTy_ok rfl) rfl; rintro _ w3 ⟨rfl, hp⟩)
  (apply wds0S; exact rfl; exact rfl; exact sstore3 hp 0 rfl rfl rfl rfl (sizeTy_ok rfl) rfl; rintro _ w4 ⟨rfl, hp⟩)
  refine wpd_nil ?_
  have hp := hp.norm 0 [.bool false, .string (ofN c), .string (ofN d)] rfl rfl
  have hp := hp.norm 1 [.bool false, .string (ofN a), .string (ofN e)] rfl rfl
  (repeat (first | (with_reducible first | apply WP_seq | apply WP_region | apply thenQ_n) | (apply wlp; ((apply pf_loadb; exact rfl) <;> (first | exact rfl | exact hp.agg_blk 0 rfl rfl | exact hp.agg_blk 1 rfl rfl)); exact fA3 rfl)))
  (apply wlp; exact pv_eq62 rfl rfl; exact bool_eq (b := decide (a = c) && decide (e = d)) (by rw [ofN_eq, ofN_eq]; rfl))
  (repeat (with_reducible first | apply wpl_nil | apply thenQ_n))
  refine WP_cond rfl (fun h => ?_) (fun h => ?_)
  · have he : a = c ∧ e = d := by simpa using h
    obtain ⟨rfl, rfl⟩ := he
    (repeat (first | (with_reducible first | apply WP_seq | apply WP_region | apply wpl_nil | apply thenQ_n | apply thenQ_ret | apply WP_ret) | (apply wlp; apply pv_assign; exact fI rfl)))
    exact ret_tmp rfl rfl ⟨_, rfl, by rw [if_neg (by omega), if_pos rfl]; rfl, hp.keeps⟩
  · (repeat (first | (with_reducible first | apply WP_seq | apply WP_region | apply thenQ_n | apply WP_skip) | (apply wlp; ((first | apply pf_field | (apply pf_load; exact rfl)) <;> (first | exact rfl | exact hp.cell 0 rfl rfl | exact hp.cell 1 rfl rfl)); (first | exact fB rfl | exact fP rfl))))
    (apply wlp; exact pv_bneq Tryd.underlying4 rfl rfl; exact bool_eq (b := false) rfl)
    (repeat (with_reducible first | apply wpl_nil | apply thenQ_n))
    refine WP_cond_f rfl ?_
    (repeat (with_reducible first | apply WP_seq | apply thenQ_n | apply WP_skip))
    refine WP_draw mixed (by kernel_rfl) (fun w' => Hp _ _ w' _) hp.drew ?_
    have hp := hp.drew
    (repeat ((apply wdp; exact rfl); (intro w hp; intros; ((first | apply pf_field | (apply pf_load; exact rfl)) <;> (first | exact rfl | exact hp.cell 0 rfl rfl | exact hp.cell 1 rfl rfl))); (intros; (first | exact fP rfl | exact fT rfl))))
    (apply wds; exact rfl; exact st_call rfl ent18 rfl (c18 a d _ h1.fn h2.fd); rintro _ w5 ⟨rfl, hk⟩; have hp := hp.call hk; refine ⟨hp, ?_⟩)
    (repeat ((apply wdp; exact rfl); (intro w hp; intros; ((first | apply pf_field | (apply pf_load; exact rfl)) <;> (first | exact rfl | exact hp.cell 0 rfl rfl | exact hp.cell 1 rfl rfl))); (intros; (first | exact fP rfl | exact fT rfl))))
    (apply wds; exact rfl; exact st_call rfl ent18 rfl (c18 c e _ h2.fn h1.fd); rintro _ w6 ⟨rfl, hk⟩; have hp := hp.call hk; refine ⟨hp, ?_⟩)
    skip
    (apply wds; exact rfl; exact st_call rfl ent47 rfl (c47 (a * d) (c * e) _ hf1 hf2); rintro _ w7 ⟨rfl, hk⟩; have hp := hp.call hk; refine ⟨hp, ?_⟩)
    (repeat ((apply wdp; exact rfl); (intro w hp; intros; apply pv_assign); (intros; exact fI rfl)))
    refine wpd_nil ?_
    (repeat (first | (with_reducible first | apply WP_seq | apply WP_region | apply wpl_nil | apply thenQ_n) | (apply wlp; ((first | apply pf_field | (apply pf_load; exact rfl)) <;> (first | exact rfl | exact hp.cell 1 rfl rfl)); (first | exact fB rfl | exact fP rfl))))
    refine WP_cond_f rfl ?_
    (repeat (first | (with_reducible first | apply WP_seq | apply WP_region | apply wpl_nil | apply thenQ_n | apply WP_ret | apply WP_skip) | (apply wlp; (first | apply pv_move | apply pv_assign); exact fI rfl)))
    exact ret_tmp rfl rfl ⟨_, rfl, rfl, hp.keeps⟩
theorem c64 (a e c d : Nat) (w : World) (h1 : RF a e) (h2 : RF c d) : Ret Tryd.prog 64 [RV a e, RV c d] w (fun v w' => v = RV ((a * d + c * e) / Nat.gcd (a * d + c * e) (e * d)) (e * d / Nat.gcd (a * d + c * e) (e * d)) ∧ Keeps [] w w') := by
  have hf1 : Fit (a * d) := mul_fit2 h1.num h2.den
  have hf2 : Fit (c * e) := mul_fit2 h2.num h1.den
  have hf3 : Fit (e * d) := mul_fit2 h1.den h2.den
  have hf4 : Fit (a * d + c * e) := add_fit2 h1.num h2.den h2.num h1.den
  have hbd : 0 < e * d := Nat.mul_pos h1.pos h2.pos
  refine Ret.of_WP Tryd.func64 rfl Tryd.ntmps64 rfl ?_
  have hp := Hp.start (M := []) (w := w)
  (repeat (first | (with_reducible first | apply WP_seq | apply WP_region | apply wpl_nil | apply thenQ_n) | (apply wls; (first | exact sbox3 hp rfl | exact salloc3 hp (zeroTy_ok rfl)); rintro _ w ⟨b, rfl, hp⟩)))
  refine WP_draw mixed (by kernel_rfl) (fun w' => Hp _ _ w' _) hp.drew ?_
  have hp := hp.drew
  (repeat ((apply wdp; exact rfl); (intro w hp; intros; ((first | apply pf_field | (apply pf_load; exact rfl)) <;> (first | exact rfl | exact hp.cell 1 rfl rfl | exact hp.cell 2 rfl rfl))); (intros; (first | exact fP rfl | exact fT rfl))))
  (apply wds; exact rfl; exact st_call rfl ent18 rfl (c18 a d _ h1.fn h2.fd); rintro _ w5 ⟨rfl, hk⟩; have hp := hp.call hk; refine ⟨hp, ?_⟩)
  (repeat ((apply wdp; exact rfl); (intro w hp; intros; ((first | apply pf_field | (apply pf_load; exact rfl)) <;> (first | exact rfl | exact hp.cell 1 rfl rfl | exact hp.cell 2 rfl rfl))); (intros; (first | exact fP rfl | exact fT rfl))))
  (apply wds; exact rfl; exact st_call rfl ent18 rfl (c18 c e _ h2.fn h1.fd); rintro _ w6 ⟨rfl, hk⟩; have hp := hp.call hk; refine ⟨hp, ?_⟩)
  (repeat ((apply wdp; exact rfl); (intro w hp; intros; apply pv_assign); (intros; exact fT rfl)))
  refine wpd_nil ?_
  (repeat (first | (with_reducible first | apply WP_seq | apply WP_region | apply thenQ_n) | (apply wlp; ((first | apply pf_field | (apply pf_load; exact rfl)) <;> (first | exact rfl | exact hp.cell 1 rfl rfl | exact hp.cell 2 rfl rfl)); (first | exact fP rfl | exact fT rfl))))
  (apply wls; exact st_call rfl ent18 rfl (c18 e d _ h1.fd h2.fd))
  rintro _ w7 ⟨rfl, hk⟩
  have hp := hp.call hk
  (repeat (first | (with_reducible first | apply WP_seq | apply WP_region | apply wpl_nil | apply thenQ_n) | (apply wlp; ((first | apply pv_assign | apply pf_field | (apply pf_load; exact rfl)) <;> (first | exact rfl | exact hp.cell 1 rfl rfl | exact hp.cell 2 rfl rfl)); (first | exact fB rfl | exact fP rfl | exact fT rfl))))
  (apply wlp; exact pv_beql Tryd.underlying4 rfl rfl; exact bool_eq (b := true) rfl)
  (repeat (with_reducible first | apply wpl_nil | apply thenQ_n))
  refine WP_cond_t rfl ?_
  (repeat with_reducible apply WP_seq)
  refine WP_drawS mixed (by kernel_rfl) (fun w' => Hp _ _ w' _) hp.drew ?_
  have hp := hp.drew
  (repeat ((apply wdp; exact rfl); (intro w hp; intros; ((first | apply pv_move | apply pf_field | (apply pf_load; exact rfl)) <;> (first | exact rfl | exact hp.cell 2 rfl rfl))); (intros; (first | exact fB rfl | exact fP rfl | exact fT rfl))))
  (apply wds; exact rfl; exact st_call rfl ent17 rfl (c17 (a * d) (c * e) _ hf1 hf2); rintro _ w8 ⟨rfl, hk⟩; have hp := hp.call hk; refine ⟨hp, ?_⟩)
  (repeat ((apply wdp; exact rfl); (intro w hp; intros; apply pv_move); (intros; exact fT rfl)))
  (apply wds; exact rfl; exact st_call rfl ent61 rfl (c61 (a * d + c * e) (e * d) _ hf4 hf3 hbd); rintro _ w9 ⟨rfl, hk⟩; have hp := hp.call hk; refine ⟨hp, ?_⟩)
  (apply wds0S; exact rfl; exact rfl; exact sstore3 hp 0 rfl rfl rfl rfl (sizeTy_ok rfl) rfl; rintro _ w10 ⟨rfl, hp⟩)
  refine wpd_nil ?_
  (repeat (with_reducible first | apply thenQ_n | apply thenQ_ret | apply WP_ret))
  exact ret_cell rfl rfl rfl rfl (hp.agg_blk 0 rfl rfl) ⟨_, rfl, rfl, hp.keeps⟩
theorem c34 (a e c d : Nat) (w : World) (h1 : RF a e) (h2 : RF c d) : Ret Tryd.prog 34 [RV a e, RV c d] w (fun v w' => v = RV ((a * d + c * e) / Nat.gcd (a * d + c * e) (e * d)) (e * d / Nat.gcd (a * d + c * e) (e * d)) ∧ Keeps [] w w') := by
  refine Ret.of_WP Tryd.func34 rfl Tryd.ntmps34 rfl ?_
  have hp := Hp.start (M := []) (w := w)
  (repeat (first | (with_reducible first | apply WP_seq | apply WP_region | apply wpl_nil | apply thenQ_n) | (apply wls; (first | exact sbox3 hp rfl | exact salloc3 hp (zeroTy_ok rfl)); rintro _ w ⟨b, rfl, hp⟩)))
  refine WP_drawS mixed (by kernel_rfl) (fun w' => Hp _ _ w' _) hp.drew ?_
  have hp := hp.drew
  (repeat ((apply wdp; exact rfl); (intro w hp; intros; ((apply pf_loadb; exact rfl) <;> (first | exact rfl | exact hp.agg_blk 2 rfl rfl))); (intros; exact fA3 rfl)))
  (apply wds; exact rfl; exact st_call rfl ent60 rfl (c60 a e _ h1.fn h1.fd h1.pos h1.low); rintro _ w1 ⟨rfl, hk⟩; have hp := hp.call hk; refine ⟨hp, ?_⟩)
  (repeat ((apply wdp; exact rfl); (intro w hp; intros; ((apply pf_loadb; exact rfl) <;> (first | exact rfl | exact hp.agg_blk 1 rfl rfl))); (intros; exact fA3 rfl)))
  (apply wds; exact rfl; exact st_call rfl ent60 rfl (c60 c d _ h2.fn h2.fd h2.pos h2.low); rintro _ w2 ⟨rfl, hk⟩; have hp := hp.call hk; refine ⟨hp, ?_⟩)
  skip
  (apply wds; exact rfl; exact st_call rfl ent64 rfl (c64 a e c d _ h1 h2); rintro _ w3 ⟨rfl, hk⟩; have hp := hp.call hk; refine ⟨hp, ?_⟩)
  (apply wds0S; exact rfl; exact rfl; exact sstore3 hp 0 rfl rfl rfl rfl (sizeTy_ok rfl) rfl; rintro _ w4 ⟨rfl, hp⟩)
  refine wpd_nil ?_
  (repeat (with_reducible first | apply thenQ_n | apply WP_ret))
  exact ret_cell rfl rfl rfl rfl (hp.agg_blk 0 rfl rfl) ⟨_, rfl, rfl, hp.keeps⟩
end Go.Proofs.YteklkjnhefnimaaDoor
