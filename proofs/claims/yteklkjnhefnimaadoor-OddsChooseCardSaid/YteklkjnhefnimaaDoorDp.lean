/- nat: divide; conditions: a divisor other than 0, the lists lie in memory and are short. -/
import Derived.Test.YteklkjnhefnimaaDoorDo
namespace Go.Proofs.YteklkjnhefnimaaDoor
open Go.Eng Go.Dig

/-! plain laws -/
theorem norm_v {y n t s : Nat} (ht : y / 4294967296 ^ n % 4294967296 = t) (hy : y < 4294967296 ^ (n + 1)) (hs : s ≤ 31) (h1 : 2147483648 ≤ t * 2 ^ s) (h2 : t * 2 ^ s < 4294967296) : 2147483648 ≤ y * 2 ^ s / 4294967296 ^ n ∧ y * 2 ^ s < 4294967296 ^ (n + 1) := by
  have hp : 0 < 4294967296 ^ n := Nat.pow_pos (by decide)
  have hlt : y / 4294967296 ^ n < 4294967296 := by
    rw [Nat.div_lt_iff_lt_mul hp, Nat.mul_comm, ← Nat.pow_succ]
    exact hy
  rw [Nat.mod_eq_of_lt hlt] at ht
  rw [Nat.pow_succ]
  generalize 4294967296 ^ n = P at *
  have h3 : t * P ≤ y := by rw [← ht]; exact Nat.div_mul_le_self y P
  have h4 : y < P * (t + 1) := by rw [← ht]; exact Nat.lt_mul_div_succ y hp
  constructor
  · refine Nat.le_trans h1 ?_
    rw [Nat.le_div_iff_mul_le hp, Nat.mul_right_comm]
    exact Nat.mul_le_mul_right _ h3
  · have e : (4294967296 : Nat) = 2 ^ (32 - s) * 2 ^ s := by rw [← Nat.pow_add, show 32 - s + s = 32 from by omega]
    have h5 : t < 2 ^ (32 - s) := by
      rw [e] at h2
      exact Nat.lt_of_mul_lt_mul_right h2
    rw [e, ← Nat.mul_assoc]
    refine (Nat.mul_lt_mul_right (Nat.pow_pos (by decide))).2 (Nat.lt_of_lt_of_le h4 ?_)
    exact Nat.mul_le_mul_left _ h5
theorem seg_ex {U : List Nat} {j n : Nat} (h : j + n ≤ U.length) : ∃ A m C, U = A ++ m ++ C ∧ A.length = j ∧ m.length = n := by
  refine ⟨U.take j, (U.drop j).take n, (U.drop j).drop n, ?_, by simp; omega, by simp; omega⟩
  rw [List.append_assoc, List.take_append_drop, List.take_append_drop]
theorem seg_val {b : Nat} {A m C : List Nat} : val b (A ++ m ++ C) = val b A + b ^ A.length * val b m + b ^ A.length * b ^ m.length * val b C := by
  rw [val_append, val_append, List.length_append, Nat.pow_add]
theorem div_seg {b : Nat} {A m C : List Nat} {v n : Nat} (hb : 0 < b) (hm : m.length = n + 1) (hv : v < b ^ n) (h : val b (A ++ m ++ C) < v * b ^ (A.length + 1)) : val b C = 0 ∧ val b m < v * b ∧ val b (A ++ m ++ C) = val b A + b ^ A.length * val b m := by
  have e := seg_val (b := b) (A := A) (m := m) (C := C)
  rw [hm] at e
  have hp : 0 < b ^ A.length := Nat.pow_pos hb
  have hC : val b C = 0 := by
    rcases Nat.eq_zero_or_pos (val b C) with h0 | h0
    · exact h0
    · have h1 : b ^ A.length * b ^ (n + 1) * 1 ≤ b ^ A.length * b ^ (n + 1) * val b C := Nat.mul_le_mul_left _ h0
      have h2 : v * b ^ (A.length + 1) ≤ b ^ A.length * b ^ (n + 1) := by
        rw [Nat.pow_succ, Nat.pow_succ, ← Nat.mul_assoc, ← Nat.mul_assoc, Nat.mul_comm v]
        exact Nat.mul_le_mul_right _ (Nat.mul_le_mul_left _ (Nat.le_of_lt hv))
      omega
  rw [hC, Nat.mul_zero, Nat.add_zero] at e
  refine ⟨hC, ?_, e⟩
  rw [e, Nat.pow_succ, ← Nat.mul_assoc, Nat.mul_right_comm] at h
  have h3 : val b m * b ^ A.length < v * b * b ^ A.length := by
    have : b ^ A.length * val b m = val b m * b ^ A.length := Nat.mul_comm _ _
    omega
  exact Nat.lt_of_mul_lt_mul_right h3
theorem div_next {b : Nat} {A : List Nat} {v M Z q : Nat} (hA : Bd b A) (hv : 0 < v) (hz : Z = M % v) (hq : q = M / v) : val b A + b ^ A.length * Z + v * (b ^ A.length * q) = val b A + b ^ A.length * M ∧ val b A + b ^ A.length * Z < v * b ^ A.length := by
  have h1 := val_lt hA
  have h2 := Nat.div_add_mod M v
  rw [← hz, ← hq] at h2
  have h3 : Z < v := by rw [hz]; exact Nat.mod_lt _ hv
  generalize b ^ A.length = P at *
  constructor
  · rw [← h2, Nat.mul_add, Nat.mul_left_comm]
    omega
  · have h4 : P * (Z + 1) ≤ P * v := Nat.mul_le_mul_left P h3
    rw [Nat.mul_add, Nat.mul_comm P v] at h4
    omega
theorem fix0 {Z G v M q : Nat} (hv : 0 < v) (hq : q = M / v) (h1 : q ≤ G) (h : Z + G * v = M) : G = q ∧ Z = M % v := by
  have h2 : G ≤ M / v := (Nat.le_div_iff_mul_le hv).2 (by omega)
  have h3 : G = q := by omega
  refine ⟨h3, ?_⟩
  have h4 := Nat.div_add_mod M v
  rw [← hq, ← h3, Nat.mul_comm] at h4
  omega
theorem fix1 {Z G v M q P : Nat} (hv : 0 < v) (hq : q = M / v) (h1 : G ≤ q + 1) (hZ : Z < P) (hvP : v ≤ P) (h : Z + G * v = M + P) : G = q + 1 ∧ (Z + v) % P = M % v := by
  have h2 : M < G * v := by omega
  have h3 : M / v < G := (Nat.div_lt_iff_lt_mul hv).2 h2
  have h4 : G = q + 1 := by omega
  refine ⟨h4, ?_⟩
  have h5 := Nat.div_add_mod M v
  rw [← hq, Nat.mul_comm] at h5
  rw [h4, Nat.add_mul, Nat.one_mul] at h
  have h6 : Z + v = P + M % v := by omega
  have h7 := Nat.mod_lt M hv
  rw [h6, Nat.add_mod_left, Nat.mod_eq_of_lt (by omega)]
theorem div_fin {x y t R Q : Nat} (hy : 0 < y) (h : R + y * 2 ^ t * Q = x * 2 ^ t) (hR : R < y * 2 ^ t) : Q = x / y ∧ R / 2 ^ t = x % y := by
  have hp : 0 < 2 ^ t := Nat.pow_pos (by decide)
  have hyp : 0 < y * 2 ^ t := Nat.mul_pos hy hp
  have h1 : (R + y * 2 ^ t * Q) / (y * 2 ^ t) = Q := by rw [Nat.add_mul_div_left _ _ hyp, Nat.div_eq_of_lt hR, Nat.zero_add]
  rw [h, Nat.mul_div_mul_right _ _ hp] at h1
  have h2 : (R + y * 2 ^ t * Q) % (y * 2 ^ t) = R := by rw [Nat.add_mul_mod_self_left, Nat.mod_eq_of_lt hR]
  rw [h, Nat.mul_mod_mul_right] at h2
  refine ⟨h1.symm, ?_⟩
  rw [← h2, Nat.mul_div_cancel _ hp]
theorem val_zero_bd {b : Nat} {l : List Nat} (h : val b l = 0) (hb : 0 < b) : Bd b l := by
  induction l with
  | nil => exact .nil
  | cons d l ih =>
    rw [val] at h
    have h1 : d = 0 := by omega
    have h2 : b * val b l = 0 := by omega
    rcases Nat.mul_eq_zero.1 h2 with h3 | h3
    · omega
    · exact .cons (by omega) (ih h3)
theorem Hp.callL {w0 w w' : World} {M : List Nat} {L : List Ent} (h : Hp w0 M w L) (i : Nat) {g c : Nat} {l l' : List Nat} (hi : L[i]? = some (ownL eW 93 1 (some ⟨g, 0, none⟩) c l)) (hk : Keeps [g] w w')
    (ho : ∃ o, w'.heap[g]? = some o ∧ (ownL eW 93 1 (some ⟨g, 0, none⟩) c l').2 o) : Hp w0 M w' (L.set i (ownL eW 93 1 (some ⟨g, 0, none⟩) c l')) :=
  h.upd hi hk (by
    intro q hq
    have : q = g := by
      have h2 : (some g : Option Nat) = some q := hq
      simpa [eq_comm] using h2
    subst this
    exact ⟨.inl rfl, ho⟩)
theorem SlAt_mid {w : World} {g : Nat} {A m C : List Nat} (h : SlAt w 1 eW (some ⟨g, 0, none⟩) (A ++ m ++ C)) : SlAt w 1 eW (some ⟨g, 0 + A.length * 1, none⟩) m := by
  intro i x hx
  have hlt := (List.getElem?_eq_some_iff.1 hx).1
  have hg := get_mid (A := A) (C := C) hlt
  rw [← List.getElem?_eq_getElem hlt, hx] at hg
  obtain ⟨b, o, hs, hc⟩ := h (A.length + i) x hg
  cases hs
  refine ⟨g, _, rfl, fun j v hv => ?_⟩
  have := hc j v hv
  rwa [show 0 + (A.length + i) * 1 + j = 0 + A.length * 1 + i * 1 + j from by omega] at this

attribute [local irreducible] PV StepF wpl wpd WP Ret

theorem c54a (x y : Nat) (s s2 : Option Addr) (c c2 : Nat) (w : World) (hx : DA w x s c) (hy : DA w y s2 c2) (hlt : x < y) :
    Ret Tryd.prog 54 [.slice s (dN x).length c, .slice s2 (dN y).length c2] w (fun v w' => ∃ s' c' s3 c3, v = .tuple #[.slice s' (dN (x / y)).length c', .slice s3 (dN (x % y)).length c3] ∧ DA w' (x / y) s' c' ∧ DA w' (x % y) s3 c3 ∧ Keeps [] w w') := by
  rw [Nat.div_eq_of_lt hlt, Nat.mod_eq_of_lt hlt]
  refine Ret.of_WP Tryd.func54 rfl Tryd.ntmps54 rfl ?_
  have hp := Hp.start (M := []) (w := w)
  (repeat (first | (with_reducible first | apply WP_seq | apply WP_region | apply wpl_nil | apply thenQ_n) | (apply wlp; (first | apply pv_move | apply pv_assign); exact fS rfl)))
  (apply wls; exact st_call rfl ent71 rfl (c71 x y s s2 c c2 _ hx hy))
  rintro _ w1 ⟨rfl, hk⟩
  have hp := hp.call hk
  rw [if_pos hlt]
  (repeat (first | (with_reducible first | apply wpl_nil | apply thenQ_n) | (apply wlp; (apply pv_lss <;> exact rfl); exact fB rfl)))
  refine WP_cond_t rfl ?_
  (repeat (first | (with_reducible first | apply WP_seq | apply WP_region | apply wpl_nil | apply thenQ_n | apply thenQ_ret | apply WP_ret) | (apply wlp; (first | apply pv_move | apply pv_assign); exact fS rfl)))
  exact ret_tmp2 rfl rfl rfl ⟨_, rfl, none, 0, s, c, rfl, DA.zero _, hx.keep hp.keeps, hp.keeps⟩
theorem c54b (x y : Nat) (s s2 : Option Addr) (c c2 : Nat) (w : World) (hx : DA w x s c) (hy : DA w y s2 c2) (hy0 : 0 < y) (hle : y ≤ x) (hl : (dN x).length ≤ 2) :
    Ret Tryd.prog 54 [.slice s (dN x).length c, .slice s2 (dN y).length c2] w (fun v w' => ∃ s' c' s3 c3, v = .tuple #[.slice s' (dN (x / y)).length c', .slice s3 (dN (x % y)).length c3] ∧ DA w' (x / y) s' c' ∧ DA w' (x % y) s3 c3 ∧ Keeps [] w w') := by
  have hx64 : x < 18446744073709551616 := dN_lt hl
  have hy64 : y < 18446744073709551616 := by omega
  refine Ret.of_WP Tryd.func54 rfl Tryd.ntmps54 rfl ?_
  have hp := Hp.start (M := []) (w := w)
  (repeat (first | (with_reducible first | apply WP_seq | apply WP_region | apply wpl_nil | apply thenQ_n) | (apply wlp; (first | apply pv_move | apply pv_assign); exact fS rfl)))
  (apply wls; exact st_call rfl ent71 rfl (c71 x y s s2 c c2 _ hx hy))
  rintro _ w1 ⟨rfl, hk⟩
  have hp := hp.call hk
  (apply wlp; exact pv_lss rfl rfl; exact bool_eq (b := false) (decide_eq_false (by rw [if_neg (by omega)]; split <;> omega)))
  (repeat (with_reducible first | apply wpl_nil | apply thenQ_n))
  refine WP_cond_f rfl ?_
  (repeat (first | (with_reducible first | apply WP_seq | apply WP_region | apply wpl_nil | apply thenQ_n | apply WP_skip) | (apply wlp; ((first | apply pv_move | (apply pf_len; exact rfl) | apply pv_leq) <;> exact rfl); (first | exact fI rfl | exact fB rfl | exact fS rfl))))
  refine WP_cond_d rfl (fun _ => ?_) (fun h => absurd hl (by omega))
  (repeat (first | (with_reducible first | apply WP_seq | apply WP_region) | (apply wlp; apply pv_move; exact fS rfl)))
  (apply wls; exact st_call rfl ent58 rfl (c58 x s c _ hx64 (hx.keep hp.keeps)))
  rintro _ w2 ⟨rfl, hk⟩
  have hp := hp.call hk
  (repeat (apply wlp; apply pv_move; exact fS rfl))
  (apply wls; exact st_call rfl ent58 rfl (c58 y s2 c2 _ hy64 (hy.keep hp.keeps)))
  rintro _ w3 ⟨rfl, hk⟩
  have hp := hp.call hk
  (repeat (first | (with_reducible first | apply WP_seq | apply wpl_nil | apply thenQ_n) | (apply wlp; apply pv_assign; exact fI rfl)))
  refine WP_draw mixed (by kernel_rfl) (fun w' => Hp _ _ w' _) hp.drew ?_
  have hp := hp.drew
  (repeat ((apply wdp; exact rfl); (intro w hp; intros; apply pv_move); (intros; exact fI rfl)))
  (apply wdp; exact rfl; (intro w hp; exact pn_quo64 rfl rfl hy0 hx64); exact fI rfl)
  skip
  (apply wds; exact rfl; exact st_call rfl ent39 rfl (c39 (x / y) _ (Nat.lt_of_le_of_lt (Nat.div_le_self x y) hx64)); rintro _ w4 ⟨s3, c3, rfl, hd3, hk⟩; have hp := hp.call hk; refine ⟨hp, ?_⟩)
  (repeat ((apply wdp; exact rfl); (intro w hp; intros; apply pv_move); (intros; exact fI rfl)))
  (apply wdp; exact rfl; (intro w hp; exact pn_rem64 rfl rfl hy0); exact fI rfl)
  skip
  (apply wds; exact rfl; exact st_call rfl ent39 rfl (c39 (x % y) _ (Nat.lt_of_le_of_lt (Nat.mod_le x y) hx64)); rintro _ w5 ⟨s4, c4, rfl, hd4, hk⟩; have hp := hp.call hk; have hd3 := hd3.keep hk; refine ⟨hp, ?_⟩)
  (repeat ((apply wdp; exact rfl); (intro w hp; intros; apply pv_assign); (intros; exact fS rfl)))
  refine wpd_nil ?_
  (repeat (with_reducible first | apply thenQ_n | apply thenQ_ret | apply WP_ret))
  exact ret_tmp2 rfl rfl rfl ⟨_, rfl, s3, c3, s4, c4, rfl, hd3, hd4, hp.keeps⟩
theorem c54c (x y : Nat) (s s2 : Option Addr) (c c2 : Nat) (w : World) (hx : DA w x s c) (hy : DA w y s2 c2) (hle : y ≤ x) (hl : 2 < (dN x).length) (hlx : (dN x).length ≤ 100000) (hly : (dN y).length = 1) :
    Ret Tryd.prog 54 [.slice s (dN x).length c, .slice s2 (dN y).length c2] w (fun v w' => ∃ s' c' s3 c3, v = .tuple #[.slice s' (dN (x / y)).length c', .slice s3 (dN (x % y)).length c3] ∧ DA w' (x / y) s' c' ∧ DA w' (x % y) s3 c3 ∧ Keeps [] w w') := by
  have hyb : y < 4294967296 := dN_lt (i := 1) (by omega)
  have hy0 : 0 < y := by
    rcases Nat.eq_zero_or_pos y with h | h
    · subst h; simp [dN_zero] at hly
    · exact h
  have hm : x % y < y := Nat.mod_lt _ hy0
  have hmb : x % y < 4294967296 := by omega
  have h0y : 0 < (dN y).length := by omega
  obtain ⟨b0, o0, hs0, hc0⟩ := hy.at_.base h0y
  have hci := hc0 0 _ (List.getElem?_eq_getElem h0y) 0 _ rfl
  have hg := dN_get h0y
  rw [Nat.pow_zero, Nat.div_one, Nat.mod_eq_of_lt hyb] at hg
  rw [hg] at hci
  have hci : w.cell? ⟨b0, o0 + 0 * 1, none⟩ = some (.int .u32 (y : Int)) := hci
  refine Ret.of_WP Tryd.func54 rfl Tryd.ntmps54 rfl ?_
  have hp := Hp.start (M := []) (w := w)
  (repeat (first | (with_reducible first | apply WP_seq | apply WP_region | apply wpl_nil | apply thenQ_n) | (apply wlp; (first | apply pv_move | apply pv_assign); exact fS rfl)))
  (apply wls; exact st_call rfl ent71 rfl (c71 x y s s2 c c2 _ hx hy))
  rintro _ w1 ⟨rfl, hk⟩
  have hp := hp.call hk
  (apply wlp; exact pv_lss rfl rfl; exact bool_eq (b := false) (decide_eq_false (by rw [if_neg (by omega)]; split <;> omega)))
  (repeat (with_reducible first | apply wpl_nil | apply thenQ_n))
  refine WP_cond_f rfl ?_
  (repeat (first | (with_reducible first | apply WP_seq | apply WP_region | apply wpl_nil | apply thenQ_n | apply WP_skip) | (apply wlp; ((first | apply pv_move | (apply pf_len; exact rfl) | apply pv_leq) <;> exact rfl); (first | exact fI rfl | exact fB rfl | exact fS rfl))))
  refine WP_cond_d rfl (fun h => absurd hl (by omega)) (fun _ => ?_)
  (repeat (first | (with_reducible first | apply WP_seq | apply WP_region | apply wpl_nil | apply thenQ_n | apply WP_skip) | (apply wlp; ((first | apply pv_move | (apply pf_len; exact rfl) | (apply pv_eql; (first | exact rfl | exact ev_sel rfl (by assumption)))) <;> exact rfl); (first | exact fI rfl | exact fB rfl | exact fS rfl))))
  refine WP_cond_d rfl (fun _ => ?_) (fun h => absurd hly (by omega))
  (repeat (with_reducible first | apply WP_seq | apply WP_region))
  (apply wlp; apply pv_move; exact fS rfl)
  (apply wlp; apply pv_move; exact fS rfl)
  (apply wlp; exact pf_index (i := 0) rfl rfl rfl hs0 h0y; exact fP rfl)
  (repeat (apply wlp; ((apply pf_load; exact rfl) <;> (first | exact rfl | exact hp.old0 (by assumption))); exact fI rfl))
  (apply wls; exact st_call rfl ent74 rfl (c74 x y s c _ (hx.keep hp.keeps) hlx hy0 hyb))
  rintro _ w2 ⟨s3, c3, rfl, hd3, hk⟩
  have hp := hp.call hk
  (repeat (first | (with_reducible first | apply WP_seq | apply WP_region | apply wpl_nil | apply thenQ_n) | (apply wlp; ((first | apply pv_move | apply pv_assign | apply pv_extract | exact pn_64of32 rfl rfl rfl (by assumption)) <;> exact rfl); (first | exact fI rfl | exact fS rfl | exact fU rfl))))
  (apply wls; exact st_call rfl ent39 rfl (c39 (x % y) _ (by omega)))
  rintro _ w5 ⟨s4, c4, rfl, hd4, hk⟩
  have hp := hp.call hk
  have hd3 := hd3.keep hk
  (repeat (first | (with_reducible first | apply wpl_nil | apply thenQ_n | apply thenQ_ret | apply WP_ret) | (apply wlp; apply pv_assign; exact fS rfl)))
  exact ret_tmp2 rfl rfl rfl ⟨_, rfl, s3, c3, s4, c4, rfl, hd3, hd4, hp.keeps⟩
end Go.Proofs.YteklkjnhefnimaaDoor
