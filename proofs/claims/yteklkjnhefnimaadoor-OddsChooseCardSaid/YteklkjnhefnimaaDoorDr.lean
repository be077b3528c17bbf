/- nat: Quo, Gcd, Int, Right on canonical strings; conditions: the numbers are short. -/
import Derived.Test.YteklkjnhefnimaaDoorDq
namespace Go.Proofs.YteklkjnhefnimaaDoor
open Go.Eng Go.Dig

theorem results_tmp3 {P : Program} {fn : Func} {t u v : Nat} (h : fn.results = #[.tmp t, .tmp u, .tmp v]) (tmps : Array Value) (w : World) : (results fn tmps).run P w = .ok (.tuple #[tmps.getD t undef, tmps.getD u undef, tmps.getD v undef]) w := by
  simp [results, h]
theorem ret_tmp3 {P : Program} {n : Nat} {F : Fr} {w : World} {fn : Func} {R : Ending → World → Prop} {t u x : Nat} {v v' v2 : Value} (h : fn.results = #[.tmp t, .tmp u, .tmp x]) (hv : ev n F (.tmp t) = v) (hv' : ev n F (.tmp u) = v') (hv2 : ev n F (.tmp x) = v2) (hr : R (.returned (.tuple #[v, v', v2])) w) : retQ P n fn R .ret F w := by
  refine ⟨.tuple #[v, v', v2], ?_, hr⟩
  rw [results_tmp3 h]
  rw [← hv, ← hv', ← hv2, ← act_eval]
  rfl
theorem gcd_step (x y : Nat) : Nat.gcd x y = Nat.gcd y (x % y) := by
  rw [Nat.gcd_comm x y, Nat.gcd_rec y x, Nat.gcd_comm]

theorem dN_len0 {y : Nat} : (dN y).length = 0 ↔ y = 0 := by
  rw [List.length_eq_zero_iff]
  exact dN_nil
theorem Fit.div {x y : Nat} (h : Fit x) : Fit (x / y) := h.le (Nat.div_le_self x y)
theorem Fit.mod {x y : Nat} (h : Fit x) : Fit (x % y) := h.le (Nat.mod_le x y)

attribute [local irreducible] PV StepF wpl wpd WP Ret
attribute [local irreducible] Fit

theorem c24 (x y : Nat) (w : World) (hx : Fit x) (hy : Fit y) (hy0 : 0 < y) : Ret Tryd.prog 24 [.string (ofN x), .string (ofN y)] w (fun v w' => v = .tuple #[.string (ofN (x / y)), .string (ofN (x % y)), .bool true] ∧ Keeps [] w w') := by
  have hl0 : ¬ (dN y).length = 0 := by rw [dN_len0]; omega
  refine Ret.of_WP Tryd.func24 rfl Tryd.ntmps24 rfl ?_
  have hp := Hp.start (M := []) (w := w)
  (repeat (first | (with_reducible first | apply WP_seq | apply WP_region | apply wpl_nil | apply thenQ_n) | (apply wlp; (first | apply pv_move | apply pv_assign); (first | exact fB rfl | exact fT rfl))))
  (apply wls; exact st_call rfl ent45 rfl (c45 y _ hy.d8))
  rintro _ w1 ⟨s, c, rfl, hd, hk⟩
  have hp := hp.call hk
  (repeat (first | (with_reducible first | apply WP_seq | apply WP_region | apply wpl_nil | apply thenQ_n) | (apply wlp; ((first | apply pv_move | apply pv_assign | (apply pf_len; exact rfl) | (apply pv_eql; (first | exact rfl | exact ev_sel rfl (by assumption)))) <;> exact rfl); (first | exact fI rfl | exact fB rfl | exact fS rfl))))
  refine WP_cond_d rfl (fun h => absurd h (by omega)) (fun _ => ?_)
  (repeat (first | (with_reducible first | apply WP_seq | apply WP_region | apply thenQ_n | apply WP_skip) | (apply wlp; apply pv_move; exact fT rfl)))
  (apply wls; exact st_call rfl ent45 rfl (c45 x _ hx.d8))
  rintro _ w2 ⟨s2, c2, rfl, hd2, hk⟩
  have hp := hp.call hk
  have hd := hd.keep hk
  (repeat (apply wlp; apply pv_move; exact fS rfl))
  (apply wls; exact st_call rfl ent54 rfl (c54 x y s2 s c2 c _ hd2 hd hy0 hx.d32))
  rintro _ w3 ⟨s3, c3, s4, c4, rfl, hd3, hd4, hk⟩
  have hp := hp.call hk
  (repeat (first | (with_reducible first | apply WP_seq | apply WP_region | apply wpl_nil | apply thenQ_n) | (apply wlp; ((first | apply pv_move | apply pv_assign | apply pv_extract) <;> exact rfl); (first | exact fS rfl | exact fU rfl))))
  (apply wls; exact st_call rfl ent38 rfl (c38 (x / y) s3 c3 _ hd3 hx.div.d32))
  rintro _ w4 ⟨rfl, hk⟩
  have hp := hp.call hk
  have hd4 := hd4.keep hk
  (repeat (apply wlp; apply pv_move; exact fS rfl))
  (apply wls; exact st_call rfl ent38 rfl (c38 (x % y) s4 c4 _ hd4 hx.mod.d32))
  rintro _ w5 ⟨rfl, hk⟩
  have hp := hp.call hk
  (repeat (first | (with_reducible first | apply wpl_nil | apply thenQ_n | apply WP_ret) | (apply wlp; apply pv_assign; (first | exact fB rfl | exact fT rfl))))
  exact ret_tmp3 rfl rfl rfl rfl ⟨_, rfl, rfl, hp.keeps⟩
theorem c84 (x y : Nat) (w : World) (hx : Fit x) (hy : Fit y) : Ret Tryd.prog 84 [.string (ofN x), .string (ofN y)] w (fun v w' => v = .string (ofN (Nat.gcd x y)) ∧ Keeps [] w w') := by
  refine Ret.of_WP Tryd.func84 rfl Tryd.ntmps84 rfl ?_
  have hp := Hp.start (M := []) (w := w)
  (repeat (first | (with_reducible first | apply WP_seq | apply WP_region | apply wpl_nil | apply thenQ_n) | (apply wlp; (first | apply pv_move | apply pv_assign); exact fT rfl)))
  (apply wls; exact st_call rfl ent45 rfl (c45 x _ hx.d8))
  rintro _ w1 ⟨s, c, rfl, hd, hk⟩
  have hp := hp.call hk
  (repeat (apply wlp; apply pv_move; exact fT rfl))
  (apply wls; exact st_call rfl ent45 rfl (c45 y _ hy.d8))
  rintro _ w2 ⟨s2, c2, rfl, hd2, hk⟩
  have hp := hp.call hk
  have hd := hd.keep hk
  (repeat (first | (with_reducible first | apply WP_seq | apply WP_block | apply wpl_nil | apply thenQ_n) | (apply wlp; apply pv_assign; exact fS rfl)))
  refine WP_loop3 [5, 6, 7, 8, 13, 14, 15, 16, 17, 18, 19, 20, 21, 22, 23] (fun (X Y : Nat) (p : Option Addr × Nat × Option Addr × Nat) F => (F.put 5 (.slice p.1 (dN X).length p.2.1)).put 6 (.slice p.2.2.1 (dN Y).length p.2.2.2))
    (fun X Y p w' => Nat.gcd X Y = Nat.gcd x y ∧ Fit X ∧ Fit Y ∧ DA w' X p.1 p.2.1 ∧ DA w' Y p.2.2.1 p.2.2.2 ∧ Hp w [] w' []) (fun _ Y _ => Y) x y (s, c, s2, c2) (put_self (put_self (Same.eq .refl) rfl) rfl) ⟨rfl, hx, hy, hd, hd2, hp⟩ ?_
  clear hp hd hd2
  rintro u X Y ⟨s, c, s2, c2⟩ w3 ⟨hg, hX, hY, hd, hd2, hp⟩
  have hd : DA w3 X s c := hd
  have hd2 : DA w3 Y s2 c2 := hd2
  have hz := dN_len0 (y := Y)
  (repeat (first | (with_reducible first | apply WP_seq | apply WP_region | apply wpl_nil | apply thenQ_n) | (apply wlp; ((first | apply pv_move | (apply pf_len; exact rfl) | apply pv_gtr) <;> exact rfl); (first | exact fI rfl | exact fB rfl | exact fS rfl))))
  refine WP_cond_d rfl (fun h => ?_) (fun h => ?_)
  · have hY0 : 0 < Y := by omega
    (repeat (first | (with_reducible first | apply WP_seq | apply WP_block | apply WP_region | apply thenQ_n | apply WP_skip) | (apply wlp; apply pv_move; exact fS rfl)))
    (apply wls; exact st_call rfl ent54 rfl (c54 X Y s s2 c c2 _ hd hd2 hY0 hX.d32))
    rintro _ w4 ⟨s3, c3, s4, c4, rfl, hd3, hd4, hk⟩
    have hp := hp.call hk
    have hd2 := hd2.keep hk
    (repeat (first | (with_reducible first | apply WP_region | apply wpl_nil | apply thenQ_n | apply inBlk_n) | (apply wlp; ((first | apply pv_move | apply pv_assign | apply pv_extract) <;> exact rfl); (first | exact fS rfl | exact fU rfl))))
    exact ⟨Y, X % Y, (s2, c2, s4, c4), put_self (put_self (Same.eq (by repeat (first | exact Same.hav | exact Same.refl | refine Same.put rfl ?_ | refine Same.havs rfl ?_))) rfl) rfl, ⟨by rw [← gcd_step, hg], hY, hX.mod, hd2, hd4, hp⟩, Nat.mod_lt _ hY0⟩
  · obtain rfl : Y = 0 := by omega
    rw [Nat.gcd_zero_right] at hg
    subst hg
    (repeat (first | (with_reducible first | apply WP_seq | apply WP_region | apply thenQ_n | apply thenQ_exit | apply WP_exit) | ((with_reducible apply inBlk_same); exact rfl) | (apply wlp; apply pv_move; exact fS rfl)))
    (apply wls; exact st_call rfl ent38 rfl (c38 _ s c _ hd hX.d32))
    rintro _ w5 ⟨rfl, hk⟩
    have hp := hp.call hk
    (repeat (first | (with_reducible first | apply wpl_nil | apply thenQ_n | apply WP_ret) | (apply wlp; apply pv_assign; exact fT rfl)))
    exact ret_tmp rfl rfl ⟨_, rfl, rfl, hp.keeps⟩
theorem c29 (x : Nat) (w : World) (hx : x < 9223372036854775808) : Ret Tryd.prog 29 [.string (ofN x)] w (fun v w' => v = .tuple #[.int .i64 (x : Int), .bool true] ∧ Keeps [] w w') := by
  have hx64 : x < 18446744073709551616 := by omega
  have hl2 : (dN x).length ≤ 2 := dN_len (by simpa using hx64)
  refine Ret.of_WP Tryd.func29 rfl Tryd.ntmps29 rfl ?_
  have hp := Hp.start (M := []) (w := w)
  (repeat (first | (with_reducible first | apply WP_seq | apply WP_region | apply wpl_nil | apply thenQ_n) | (apply wlp; (first | apply pv_move | apply pv_assign); (first | exact fI rfl | exact fB rfl | exact fT rfl))))
  (apply wls; exact st_call rfl ent45 rfl (c45 x _ (Fit.small hx64).d8))
  rintro _ w1 ⟨s, c, rfl, hd, hk⟩
  have hp := hp.call hk
  skip
  (apply wlp; apply pv_assign; exact fS rfl)
  (repeat (with_reducible first | apply WP_seq | apply WP_region | apply wpl_nil | apply thenQ_n))
  (apply wlp; apply pv_move; exact fS rfl)
  (apply wlp; ((apply pf_len; exact rfl) <;> exact rfl); exact fI rfl)
  (apply wlp; (exact pv_gtr rfl rfl); exact bool_eq (b := false) (decide_eq_false (by omega)))
  (repeat (first | (apply wlp; (intros; apply pv_move); (intros; (first | exact fB rfl | exact fS rfl))) | ((apply wlpT; exact rfl; exact rfl); (apply pv_move); (intros; (first | exact fB rfl | exact fS rfl))) | (apply wlpF; exact rfl; exact rfl; exact rfl) | (apply wlpU; exact rfl; exact rfl)))
  (apply wlsT; exact rfl; exact rfl; exact st_call rfl ent58 rfl (c58 x s c _ hx64 hd); rintro _ w2 ⟨rfl, hk⟩; have hp := hp.call hk; have hd := hd.keep hk)
  (apply wlpT; exact rfl; exact rfl; (exact pv_gtr rfl rfl); exact bool_eq (b := false) (decide_eq_false (by omega)))
  (repeat (first | (with_reducible first | apply wpl_nil | apply thenQ_n) | (apply wlp; (intros; exact pv_orF rfl rfl); (intros; exact fB rfl)) | (apply wlpF; exact rfl; exact rfl; exact rfl) | (apply wlpU; exact rfl; exact rfl)))
  refine WP_cond_f rfl ?_
  (repeat (first | (with_reducible first | apply WP_seq | apply WP_region | apply thenQ_n | apply WP_skip) | (apply wlp; apply pv_move; exact fS rfl)))
  (apply wls; exact st_call rfl ent58 rfl (c58 x s c _ hx64 hd))
  rintro _ w3 ⟨rfl, hk⟩
  have hp := hp.call hk
  (apply wlp; exact pf_conv rfl rfl rfl; exact int_eq (b := (x : Int)) (i64_in (by omega) (by omega)))
  (repeat (first | (with_reducible first | apply wpl_nil | apply thenQ_n | apply WP_ret) | (apply wlp; apply pv_assign; (first | exact fI rfl | exact fB rfl))))
  exact ret_tmp2 rfl rfl rfl ⟨_, rfl, rfl, hp.keeps⟩
end Go.Proofs.YteklkjnhefnimaaDoor
