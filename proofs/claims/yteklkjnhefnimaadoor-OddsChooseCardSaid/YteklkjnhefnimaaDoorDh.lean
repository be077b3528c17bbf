/- nat: Of, Cmp, Add, Sub, Mul, Int, Right on canonical strings; conditions: the numbers are short. -/
import Derived.Test.YteklkjnhefnimaaDoorDg
namespace Go.Proofs.YteklkjnhefnimaaDoor
open Go.Eng Go.Dig

theorem len32 {x k : Nat} (h : x < 2 ^ k) (hk : k ≤ 100000) : (dN x).length ≤ 100000 :=
  Nat.le_trans (dN_len (Nat.lt_of_lt_of_le h (Nat.pow_le_pow_left (by decide) k))) hk
theorem len8 {x k : Nat} (h : x < 2 ^ k) (hk : k ≤ 100000) : (digs 256 x).length ≤ 100000 :=
  Nat.le_trans (len_of_lt (by decide) (Nat.lt_of_lt_of_le h (Nat.pow_le_pow_left (by decide) k))) hk
/-- a number that is short -/
def Fit (x : Nat) : Prop := ∃ k, k ≤ 4000 ∧ x < 2 ^ k
theorem Fit.of {x k : Nat} (h : x < 2 ^ k) (hk : k ≤ 4000) : Fit x := ⟨k, hk, h⟩
theorem Fit.le {x y : Nat} (h : Fit y) (hk : x ≤ y) : Fit x := by
  obtain ⟨k, h1, h2⟩ := h
  exact ⟨k, h1, Nat.lt_of_le_of_lt hk h2⟩
theorem Fit.d32 {x : Nat} (h : Fit x) : (dN x).length ≤ 100000 := by
  obtain ⟨k, h1, h2⟩ := h
  exact len32 h2 (by omega)
theorem Fit.d8 {x : Nat} (h : Fit x) : (digs 256 x).length ≤ 100000 := by
  obtain ⟨k, h1, h2⟩ := h
  exact len8 h2 (by omega)
theorem Fit.add {x y : Nat} (hx : Fit x) (hy : Fit y) : (dN (x + y)).length ≤ 100000 := by
  obtain ⟨k, h1, h2⟩ := hx
  obtain ⟨q, h3, h4⟩ := hy
  refine len32 (k := max k q + 1) ?_ (by omega)
  have h5 : 2 ^ k ≤ 2 ^ max k q := Nat.pow_le_pow_right (by decide) (by omega)
  have h6 : 2 ^ q ≤ 2 ^ max k q := Nat.pow_le_pow_right (by decide) (by omega)
  rw [Nat.pow_succ]
  omega
theorem Fit.mul {x y : Nat} (hx : Fit x) (hy : Fit y) : (dN (x * y)).length ≤ 100000 := by
  obtain ⟨k, h1, h2⟩ := hx
  obtain ⟨q, h3, h4⟩ := hy
  refine len32 (k := k + q) ?_ (by omega)
  rw [Nat.pow_add]
  exact Nat.mul_lt_mul'' h2 h4
theorem Fit.small {x : Nat} (h : x < 18446744073709551616) : Fit x := Fit.of (k := 64) (by simpa using h) (by decide)

attribute [local irreducible] PV StepF wpl wpd WP Ret
attribute [local irreducible] Fit

theorem c13 (a : Int) (w : World) (h2 : a ≤ 9223372036854775807) : Ret Tryd.prog 13 [.int .i64 a] w (fun v w' => v = .string (ofN a.toNat) ∧ Keeps [] w w') := by
  refine Ret.of_WP Tryd.func13 rfl Tryd.ntmps13 rfl ?_
  have hp := Hp.start (M := []) (w := w)
  (repeat (first | (with_reducible first | apply WP_seq | apply WP_region | apply wpl_nil | apply thenQ_n) | (apply wlp; ((first | apply pv_move | apply pv_assign | apply pv_lss) <;> exact rfl); (first | exact fI rfl | exact fB rfl | exact fT rfl))))
  refine WP_cond_d rfl (fun h => ?_) (fun h => ?_)
  · (repeat (first | (with_reducible first | apply WP_seq | apply WP_region | apply wpl_nil | apply thenQ_n | apply thenQ_ret | apply WP_ret) | (apply wlp; apply pv_assign; exact fT rfl)))
    refine ret_tmp rfl rfl ⟨_, rfl, ?_, hp.keeps⟩
    rw [show a.toNat = 0 from by omega]
    rfl
  · obtain ⟨x, rfl⟩ : ∃ x : Nat, a = x := ⟨a.toNat, by omega⟩
    have hx : x < 18446744073709551616 := by omega
    (repeat (with_reducible first | apply WP_seq | apply WP_region | apply thenQ_n | apply WP_skip))
    (apply wlp; apply pv_move; exact fI rfl)
    (apply wlp; exact pf_conv rfl rfl rfl; exact int_eq (b := (x : Int)) (u64_in hx))
    (apply wls; exact st_call rfl ent39 rfl (c39 x _ hx))
    rintro _ w1 ⟨s, c, rfl, hd, hk⟩
    have hp := hp.call hk
    (apply wls; exact st_call rfl ent38 rfl (c38 x s c _ hd (Fit.small hx).d32))
    rintro _ w2 ⟨rfl, hk⟩
    have hp := hp.call hk
    (repeat (first | (with_reducible first | apply wpl_nil | apply thenQ_n | apply WP_ret) | (apply wlp; apply pv_assign; exact fT rfl)))
    exact ret_tmp rfl rfl ⟨_, rfl, rfl, hp.keeps⟩
theorem c47 (x y : Nat) (w : World) (hx : Fit x) (hy : Fit y) : Ret Tryd.prog 47 [.string (ofN x), .string (ofN y)] w (fun v w' => v = .int .i64 (if x < y then -1 else if x = y then 0 else 1) ∧ Keeps [] w w') := by
  refine Ret.of_WP Tryd.func47 rfl Tryd.ntmps47 rfl ?_
  have hp := Hp.start (M := []) (w := w)
  (repeat (first | (with_reducible first | apply WP_seq | apply WP_region | apply wpl_nil | apply thenQ_n) | (apply wlp; (first | apply pv_move | apply pv_assign); (first | exact fI rfl | exact fT rfl))))
  (apply wls; exact st_call rfl ent45 rfl (c45 x _ hx.d8))
  rintro _ w1 ⟨s, c, rfl, hd, hk⟩
  have hp := hp.call hk
  (repeat (apply wlp; apply pv_move; exact fT rfl))
  (apply wls; exact st_call rfl ent45 rfl (c45 y _ hy.d8))
  rintro _ w2 ⟨s2, c2, rfl, hd2, hk⟩
  have hp := hp.call hk
  have hd := hd.keep hk
  skip
  (apply wls; exact st_call rfl ent71 rfl (c71 x y s s2 c c2 _ hd hd2))
  rintro _ w3 ⟨rfl, hk⟩
  have hp := hp.call hk
  (repeat (first | (with_reducible first | apply wpl_nil | apply thenQ_n | apply WP_ret) | (apply wlp; apply pv_assign; exact fI rfl)))
  exact ret_tmp rfl rfl ⟨_, rfl, rfl, hp.keeps⟩
theorem c17 (x y : Nat) (w : World) (hx : Fit x) (hy : Fit y) : Ret Tryd.prog 17 [.string (ofN x), .string (ofN y)] w (fun v w' => v = .string (ofN (x + y)) ∧ Keeps [] w w') := by
  refine Ret.of_WP Tryd.func17 rfl Tryd.ntmps17 rfl ?_
  have hp := Hp.start (M := []) (w := w)
  (repeat (first | (with_reducible first | apply WP_seq | apply WP_region | apply wpl_nil | apply thenQ_n) | (apply wlp; (first | apply pv_move | apply pv_assign); exact fT rfl)))
  (apply wls; exact st_call rfl ent45 rfl (c45 x _ hx.d8))
  rintro _ w1 ⟨s, c, rfl, hd, hk⟩
  have hp := hp.call hk
  (repeat (apply wlp; apply pv_move; exact fT rfl))
  (apply wls; exact st_call rfl ent45 rfl (c45 y _ hy.d8))
  rintro _ w2 ⟨s2, c2, rfl, hd2, hk⟩
  have hp := hp.call hk
  have hd := hd.keep hk
  skip
  (apply wls; exact st_call rfl ent44 rfl (c44 x y s s2 c c2 _ hd hd2 hx.d32 hy.d32))
  rintro _ w3 ⟨s3, c3, rfl, hd3, hk⟩
  have hp := hp.call hk
  skip
  (apply wls; exact st_call rfl ent38 rfl (c38 (x + y) s3 c3 _ hd3 (hx.add hy)))
  rintro _ w4 ⟨rfl, hk⟩
  have hp := hp.call hk
  (repeat (first | (with_reducible first | apply wpl_nil | apply thenQ_n | apply WP_ret) | (apply wlp; apply pv_assign; exact fT rfl)))
  exact ret_tmp rfl rfl ⟨_, rfl, rfl, hp.keeps⟩
theorem c18 (x y : Nat) (w : World) (hx : Fit x) (hy : Fit y) : Ret Tryd.prog 18 [.string (ofN x), .string (ofN y)] w (fun v w' => v = .string (ofN (x * y)) ∧ Keeps [] w w') := by
  refine Ret.of_WP Tryd.func18 rfl Tryd.ntmps18 rfl ?_
  have hp := Hp.start (M := []) (w := w)
  (repeat (first | (with_reducible first | apply WP_seq | apply WP_region | apply wpl_nil | apply thenQ_n) | (apply wlp; (first | apply pv_move | apply pv_assign); exact fT rfl)))
  (apply wls; exact st_call rfl ent45 rfl (c45 x _ hx.d8))
  rintro _ w1 ⟨s, c, rfl, hd, hk⟩
  have hp := hp.call hk
  (repeat (apply wlp; apply pv_move; exact fT rfl))
  (apply wls; exact st_call rfl ent45 rfl (c45 y _ hy.d8))
  rintro _ w2 ⟨s2, c2, rfl, hd2, hk⟩
  have hp := hp.call hk
  have hd := hd.keep hk
  skip
  (apply wls; exact st_call rfl ent46 rfl (c46 x y s s2 c c2 _ hd hd2 hx.d32 hy.d32))
  rintro _ w3 ⟨s3, c3, rfl, hd3, hk⟩
  have hp := hp.call hk
  skip
  (apply wls; exact st_call rfl ent38 rfl (c38 (x * y) s3 c3 _ hd3 (hx.mul hy)))
  rintro _ w4 ⟨rfl, hk⟩
  have hp := hp.call hk
  (repeat (first | (with_reducible first | apply wpl_nil | apply thenQ_n | apply WP_ret) | (apply wlp; apply pv_assign; exact fT rfl)))
  exact ret_tmp rfl rfl ⟨_, rfl, rfl, hp.keeps⟩
theorem c49 (x y : Nat) (w : World) (hx : Fit x) (hy : Fit y) : Ret Tryd.prog 49 [.string (ofN x), .string (ofN y)] w (fun v w' => v = .tuple #[.string (ofN (x - y)), .bool (decide (y ≤ x))] ∧ Keeps [] w w') := by
  refine Ret.of_WP Tryd.func49 rfl Tryd.ntmps49 rfl ?_
  have hp := Hp.start (M := []) (w := w)
  (repeat (first | (with_reducible first | apply WP_seq | apply WP_region | apply wpl_nil | apply thenQ_n) | (apply wlp; (first | apply pv_move | apply pv_assign); (first | exact fB rfl | exact fT rfl))))
  (apply wls; exact st_call rfl ent45 rfl (c45 x _ hx.d8))
  rintro _ w1 ⟨s, c, rfl, hd, hk⟩
  have hp := hp.call hk
  (repeat (apply wlp; apply pv_move; exact fT rfl))
  (apply wls; exact st_call rfl ent45 rfl (c45 y _ hy.d8))
  rintro _ w2 ⟨s2, c2, rfl, hd2, hk⟩
  have hp := hp.call hk
  have hd := hd.keep hk
  (repeat (first | (with_reducible first | apply WP_seq | apply WP_region | apply wpl_nil | apply thenQ_n) | (apply wlp; (first | apply pv_move | apply pv_assign); exact fS rfl)))
  (apply wls; exact st_call rfl ent71 rfl (c71 x y s s2 c c2 _ hd hd2))
  rintro _ w3 ⟨rfl, hk⟩
  have hp := hp.call hk
  have hd := hd.keep hk
  have hd2 := hd2.keep hk
  (repeat (first | (with_reducible first | apply wpl_nil | apply thenQ_n) | (apply wlp; (apply pv_lss <;> exact rfl); exact fB rfl)))
  refine WP_cond_d rfl (fun h => ?_) (fun h => ?_)
  · have hlt : x < y := by
      split at h
      · assumption
      · split at h <;> omega
    (repeat (first | (with_reducible first | apply WP_seq | apply WP_region | apply wpl_nil | apply thenQ_n | apply thenQ_ret | apply WP_ret) | (apply wlp; apply pv_assign; (first | exact fB rfl | exact fT rfl))))
    refine ret_tmp2 rfl rfl rfl ⟨_, rfl, ?_, hp.keeps⟩
    rw [show x - y = 0 from by omega, decide_eq_false (show ¬ y ≤ x by omega)]
    rfl
  · have hle : y ≤ x := by
      split at h
      · omega
      · omega
    (repeat (first | (with_reducible first | apply WP_seq | apply WP_region | apply thenQ_n | apply WP_skip) | (apply wlp; apply pv_move; exact fS rfl)))
    (apply wls; exact st_call rfl ent72 rfl (c72 x y s s2 c c2 _ hd hd2 hx.d32 hle))
    rintro _ w4 ⟨s3, c3, rfl, hd3, hk⟩
    have hp := hp.call hk
    skip
    (apply wls; exact st_call rfl ent38 rfl (c38 (x - y) s3 c3 _ hd3 (hx.le (Nat.sub_le x y)).d32))
    rintro _ w5 ⟨rfl, hk⟩
    have hp := hp.call hk
    (repeat (first | (with_reducible first | apply wpl_nil | apply thenQ_n | apply WP_ret) | (apply wlp; apply pv_assign; (first | exact fB rfl | exact fT rfl))))
    refine ret_tmp2 rfl rfl rfl ⟨_, rfl, ?_, hp.keeps⟩
    rw [decide_eq_true hle]
    rfl
end Go.Proofs.YteklkjnhefnimaaDoor
