/- nat: estimate (a digit of a quotient, by the first digits); conditions: lists in memory, a divisor whose first digit is great. -/
import Derived.Test.YteklkjnhefnimaaDoorDn
namespace Go.Proofs.YteklkjnhefnimaaDoor
open Go.Eng Go.Dig

/-- plain law: one step down -/
theorem est_down {b P u v u3 v2 G q : Nat} (hq : q = u / v) (hu : u < (u3 + 1) * P) (hv : v2 * P ≤ v) (h : u3 < G * v2) : q + 1 ≤ G := by
  subst hq
  have h1 : (u3 + 1) * P ≤ G * v2 * P := Nat.mul_le_mul_right P h
  have h2 : G * v2 * P ≤ G * v := by rw [Nat.mul_assoc]; exact Nat.mul_le_mul_left G hv
  have h3 : u < G * v := by omega
  exact (Nat.div_lt_iff_lt_mul (by
    rcases Nat.eq_zero_or_pos v with h0 | h0
    · subst h0; simp at h3
    · exact h0)).2 h3
theorem est_up {P u v u3 v2 G q : Nat} (hq : q = u / v) (hv0 : 0 < v) (hu : u3 * P ≤ u) (hv : v ≤ (v2 + 1) * P) (h : (G - 1) * (v2 + 1) ≤ u3) : G ≤ q + 1 := by
  subst hq
  have h1 : (G - 1) * v ≤ (G - 1) * ((v2 + 1) * P) := Nat.mul_le_mul_left _ hv
  have h2 : (G - 1) * (v2 + 1) * P ≤ u3 * P := Nat.mul_le_mul_right P h
  rw [Nat.mul_assoc] at h2
  have h3 : G - 1 ≤ u / v := (Nat.le_div_iff_mul_le hv0).2 (by omega)
  omega
/-- the exit by the third digit -/
theorem est_a {b G v1 v2 rest u2 T : Nat} (hT : G * v1 + rest = T) (hG : G ≤ b) (hv1 : 0 < v1) (h : G * v2 ≤ rest * b + u2) : (G - 1) * (v1 * b + v2 + 1) ≤ T * b + u2 := by
  have e1 : (G - 1) * (v1 * b + v2 + 1) ≤ G * (v1 * b + v2) := by
    rcases Nat.eq_zero_or_pos G with h0 | h0
    · subst h0; simp
    · obtain ⟨k, rfl⟩ : ∃ k, G = k + 1 := ⟨G - 1, by omega⟩
      simp only [Nat.add_sub_cancel]
      rw [Nat.mul_add, Nat.add_mul, Nat.mul_one, Nat.one_mul]
      have h1 : 1 * b ≤ v1 * b := Nat.mul_le_mul_right b hv1
      omega
  have e2 : G * (v1 * b + v2) = G * v1 * b + G * v2 := by rw [Nat.mul_add, Nat.mul_assoc]
  rw [← hT, Nat.add_mul]
  omega
/-- the exit by a rest that is too great -/
theorem est_b {b G v1 v2 rest u2 T : Nat} (hT : G * v1 + rest = T) (hG : G ≤ b + 1) (hv2 : v2 < b) (h : b ≤ rest) : (G - 1) * (v1 * b + v2 + 1) ≤ T * b + u2 := by
  have h1 : (G - 1) * (v1 * b + v2 + 1) ≤ (G - 1) * (v1 * b + b) := Nat.mul_le_mul_left _ (by omega)
  have h2 : (G - 1) * (v1 * b + b) = (G - 1) * v1 * b + (G - 1) * b := by rw [Nat.mul_add, Nat.mul_assoc]
  have h3 : (G - 1) * v1 * b ≤ G * v1 * b := Nat.mul_le_mul_right _ (Nat.mul_le_mul_right _ (by omega))
  have h4 : (G - 1) * b ≤ rest * b := Nat.mul_le_mul_right _ (by omega)
  rw [← hT, Nat.add_mul]
  omega
theorem est_bd {P U Ua X : Nat} (hU : U = Ua + X * P) (hUa : Ua < P) : U < (X + 1) * P ∧ X * P ≤ U := by
  rw [Nat.add_mul, Nat.one_mul]
  omega
theorem est_un {b P U V X Y : Nat} (h1 : X * P ≤ U) (h2 : V ≤ Y * P) (h3 : U < V * b) : X < Y * b := by
  have h4 : V * b ≤ Y * P * b := Nat.mul_le_mul_right b h2
  rw [Nat.mul_right_comm] at h4
  exact Nat.lt_of_mul_lt_mul_right (Nat.lt_of_le_of_lt h1 (Nat.lt_of_lt_of_le h3 h4))
theorem est_step {G v1 r T q B : Nat} (hGT : G * v1 + r = T) (hd : q + 1 ≤ G) (hB : G ≤ B) : q ≤ G - 1 ∧ G - 1 ≤ B ∧ (G - 1) * v1 + (r + v1) = T := by
  obtain ⟨j, rfl⟩ : ∃ j, G = j + 1 := ⟨G - 1, by omega⟩
  rw [Nat.add_mul, Nat.one_mul] at hGT
  simp only [Nat.add_sub_cancel]
  omega
theorem est_c {b G v1 v2 r T u X Y : Nat} (hGT : G * v1 + r = T) (hX : X = G * v2) (hY : Y = r * b + u) (h : Y < X) : T * b + u < G * (v1 * b + v2) := by
  rw [Nat.mul_add, ← Nat.mul_assoc, ← hX, ← hGT, Nat.add_mul]
  omega
theorem shl32 {r : Nat} (hr : r ≤ 4294967295) : r * 2 ^ 32 < 18446744073709551616 := by
  rw [show (2 : Nat) ^ 32 = 4294967296 from by decide]
  omega
theorem mul32 {G v : Nat} (hG : G ≤ 4294967295) (hv : v < 4294967296) : G * v < 18446744073709551616 := by
  have : G * v ≤ 4294967295 * 4294967295 := Nat.mul_le_mul hG (by omega)
  omega
theorem est_first {T v1 un u1 : Nat} (hT : T = un * 4294967296 + u1) (hu1 : u1 < 4294967296) (hun : un ≤ v1) (hv1 : 2147483648 ≤ v1) (hv : v1 < 4294967296) : T / v1 ≤ 4294967297 := by
  have : T / v1 < 4294967298 := by
    rw [Nat.div_lt_iff_lt_mul (by omega)]
    omega
  omega
/-- the first quotient is not too small -/
theorem est_low {P u v u3 v1 v2 T u2 q : Nat} (hq : q = u / v) (hu : u < (u3 + 1) * P) (hu3 : u3 = T * 4294967296 + u2) (hu2 : u2 < 4294967296) (hv : (v1 * 4294967296 + v2) * P ≤ v) (hv1 : 0 < v1) : q ≤ T / v1 := by
  have h1 : T < v1 * (T / v1 + 1) := Nat.lt_mul_div_succ T hv1
  have h2 : u3 < (T / v1 + 1) * (v1 * 4294967296 + v2) := by
    rw [Nat.mul_add, ← Nat.mul_assoc, Nat.mul_comm (T / v1 + 1) v1]
    generalize v1 * (T / v1 + 1) = X at h1
    have := Nat.zero_le ((T / v1 + 1) * v2)
    omega
  have := est_down (b := 0) (G := T / v1 + 1) hq hu hv h2
  omega
theorem split3 {l : List Nat} {k : Nat} (hb : Bd 4294967296 l) (hl : l.length = k + 3) (h1 : k < l.length) (h2 : k + 1 < l.length) (h3 : k + 2 < l.length) : val 4294967296 l = val 4294967296 (l.take k) + 4294967296 ^ k * (l[k] + 4294967296 * (l[k + 1] + 4294967296 * l[k + 2])) ∧ val 4294967296 (l.take k) < 4294967296 ^ k := by
  have e := val_take_drop 4294967296 l k (by omega)
  rw [List.drop_eq_getElem_cons h1, List.drop_eq_getElem_cons h2, List.drop_eq_getElem_cons h3, List.drop_of_length_le (by omega)] at e
  have hlt := val_lt (hb.take k)
  rw [List.length_take, Nat.min_eq_left (by omega)] at hlt
  refine ⟨?_, hlt⟩
  rw [e]
  simp [val]
theorem split2 {l : List Nat} {k : Nat} (hb : Bd 4294967296 l) (h1 : k < l.length) (h2 : k + 1 < l.length) : val 4294967296 (l.take (k + 2)) = val 4294967296 (l.take k) + 4294967296 ^ k * (l[k] + 4294967296 * l[k + 1]) ∧ val 4294967296 (l.take k) < 4294967296 ^ k := by
  have e1 := val_take_succ 4294967296 l k h1
  have e2 := val_take_succ 4294967296 l (k + 1) h2
  have hlt := val_lt (hb.take k)
  rw [List.length_take, Nat.min_eq_left (by omega)] at hlt
  refine ⟨?_, hlt⟩
  rw [e2, e1, Nat.pow_succ, Nat.mul_add, Nat.mul_assoc]
  omega

attribute [local irreducible] PV StepF wpl wpd WP Ret

theorem c77 (m vl : List Nat) (k cu cv : Nat) (su sv : Option Addr) (w : World) (hm : SlAt w 1 eW su m) (hs : SlAt w 1 eW sv vl) (hbm : Bd 4294967296 m) (hbv : Bd 4294967296 vl) (hml : m.length = k + 3) (hvl : vl.length = k + 3) (hk : k ≤ 100000)
    (hlt : val 4294967296 m < val 4294967296 (vl.take (k + 2)) * 4294967296) (htop : ∀ h : k + 1 < vl.length, 2147483648 ≤ vl[k + 1]) :
    Ret Tryd.prog 77 [.slice su (k + 3) cu, .slice sv (k + 3) cv] w (fun v w' => ∃ G, v = .int .u64 ((G : Nat) : Int) ∧ val 4294967296 m / val 4294967296 (vl.take (k + 2)) ≤ G ∧ G ≤ val 4294967296 m / val 4294967296 (vl.take (k + 2)) + 1 ∧ Keeps [] w w') := by
  have k0 : k < k + 3 := by omega
  have k1 : k + 1 < k + 3 := by omega
  have k2 : k + 2 < k + 3 := by omega
  have um := split3 hbm hml (by omega) (by omega) (by omega)
  have vm := split2 hbv (k := k) (by omega) (by omega)
  have htop := htop (by omega)
  obtain ⟨b0, o0, hs0, hc0⟩ := hm.base (by omega)
  have cu0 := hc0 k _ (List.getElem?_eq_getElem (by omega)) 0 _ rfl
  have cu1 := hc0 (k + 1) _ (List.getElem?_eq_getElem (by omega)) 0 _ rfl
  have cu2 := hc0 (k + 2) _ (List.getElem?_eq_getElem (by omega)) 0 _ rfl
  have bu0 := hbm.get (i := k) (by omega)
  have bu1 := hbm.get (i := k + 1) (by omega)
  have bu2 := hbm.get (i := k + 2) (by omega)
  obtain ⟨b1, o1, hs1, hc1⟩ := hs.base (by omega)
  have cv0 := hc1 k _ (List.getElem?_eq_getElem (by omega)) 0 _ rfl
  have cv1 := hc1 (k + 1) _ (List.getElem?_eq_getElem (by omega)) 0 _ rfl
  have bv0 := hbv.get (i := k) (by omega)
  have bv1 := hbv.get (i := k + 1) (by omega)
  generalize m[k]'_ = u0 at um cu0 bu0
  generalize m[k + 1]'_ = u1 at um cu1 bu1
  generalize m[k + 2]'_ = u2 at um cu2 bu2
  generalize vl[k]'_ = v0 at vm cv0 bv0
  generalize vl[k + 1]'_ = v1 at vm cv1 bv1 htop
  generalize val 4294967296 m = U at *
  generalize val 4294967296 (vl.take (k + 2)) = V at *
  generalize val 4294967296 (m.take k) = Ua at *
  generalize val 4294967296 (vl.take k) = Va at *
  have hP : ∃ P, P = 4294967296 ^ k := ⟨_, rfl⟩
  obtain ⟨P, hPe⟩ := hP
  have hP0 : 0 < P := by rw [hPe]; exact Nat.pow_pos (by decide)
  rw [← hPe] at um vm
  obtain ⟨hU, hUa⟩ := um
  obtain ⟨hV, hVa⟩ := vm
  obtain ⟨T, hT⟩ : ∃ T, T = u2 * 4294967296 + u1 := ⟨_, rfl⟩
  have e3 : u0 + 4294967296 * (u1 + 4294967296 * u2) = T * 4294967296 + u0 := by omega
  have e2 : v0 + 4294967296 * v1 = v1 * 4294967296 + v0 := by omega
  rw [e3, Nat.mul_comm] at hU
  rw [e2, Nat.mul_comm] at hV
  obtain ⟨hUlt, hUge⟩ := est_bd hU hUa
  obtain ⟨hVlt, hVge⟩ := est_bd hV hVa
  have hVle := Nat.le_of_lt hVlt
  have hV0 : 0 < V := Nat.lt_of_lt_of_le (Nat.mul_pos (by omega) hP0) hVge
  have hun : u2 ≤ v1 := by
    have h1 := est_un hUge hVle hlt
    omega
  have hq1 : U / V < 4294967296 := (Nat.div_lt_iff_lt_mul hV0).2 (by rw [Nat.mul_comm]; exact hlt)
  obtain ⟨q, hq⟩ : ∃ q, q = U / V := ⟨_, rfl⟩
  rw [← hq] at hq1 ⊢
  have hfirst := est_first hT bu1 hun htop bv1
  have hlow := est_low hq hUlt rfl bu0 hVge (by omega)
  have hT64 : T < 18446744073709551616 := by omega
  have hv1p : 0 < v1 := by omega
  have hsh : u2 * 2 ^ 32 < 18446744073709551616 := by
    rw [show (2 : Nat) ^ 32 = 4294967296 from by decide]
    omega
  refine Ret.of_WP Tryd.func77 rfl Tryd.ntmps77 rfl ?_
  have hp := Hp.start (M := []) (w := w)
  (repeat (first | (with_reducible first | apply WP_seq | apply WP_region | apply wpl_nil | apply thenQ_n | apply WP_scope) | (apply wlp; ((first | apply pv_move | apply pv_assign | (apply pf_len; exact rfl)) <;> exact rfl); (first | exact fI rfl | exact fS rfl))))
  (apply wlp; (exact pv_sub rfl rfl); exact int_eq (b := ((k + 2 : Nat) : Int)) (by rw [i64_in (by omega) (by omega)]; omega))
  (repeat (first | (with_reducible first | apply WP_seq | apply wpl_nil | apply thenQ_n) | (apply wlp; apply pv_assign; exact fI rfl)))
  refine WP_draw mixed (by kernel_rfl) (fun w' => Hp _ _ w' _) hp.drew ?_
  have hp := hp.drew
  (repeat ((apply wdp; exact rfl); (intro w hp; intros; ((first | apply pv_move | (apply pf_load; exact rfl) | (apply pf_index; exact rfl) | exact pn_64of32 rfl rfl rfl (by assumption)) <;> (first | exact rfl | assumption | exact hp.old0 (by assumption)))); (intros; (first | exact fI rfl | exact fP rfl | exact fS rfl))))
  (apply wdp; exact rfl; (intro w hp; exact pn_shl64 (b := 32) rfl rfl (by decide) hsh); exact fI rfl)
  (repeat ((apply wdp; exact rfl); (intro w hp; intros; apply pv_move); (intros; (first | exact fI rfl | exact fS rfl))))
  (apply wdp; exact rfl; (intro w hp; exact pv_sub rfl rfl); exact int_eq (b := ((k + 1 : Nat) : Int)) (by rw [i64_in (by omega) (by omega)]; omega))
  (repeat ((apply wdp; exact rfl); (intro w hp; intros; ((first | (apply pf_load; exact rfl) | (apply pf_index; exact rfl) | exact pn_64of32 rfl rfl rfl (by assumption)) <;> (first | exact rfl | assumption | exact hp.old0 (by assumption)))); (intros; (first | exact fI rfl | exact fP rfl))))
  (apply wdp; exact rfl; (intro w hp; exact pv_or64 rfl rfl hsh (by omega)); exact int_eq (b := (T : Int)) (by rw [Nat.or_comm, or_add (k := 32) bu1, hT, Nat.add_comm]))
  (repeat ((apply wdp; exact rfl); (intro w hp; intros; apply pv_assign); (intros; exact fI rfl)))
  refine wpd_nil ?_
  (repeat (with_reducible first | apply WP_seq | apply thenQ_n))
  refine WP_draw mixed (by kernel_rfl) (fun w' => Hp _ _ w' _) hp.drew ?_
  have hp := hp.drew
  (repeat ((apply wdp; exact rfl); (intro w hp; intros; apply pv_move); (intros; (first | exact fI rfl | exact fS rfl))))
  (apply wdp; exact rfl; (intro w hp; exact pv_sub rfl rfl); exact int_eq (b := ((k + 1 : Nat) : Int)) (by rw [i64_in (by omega) (by omega)]; omega))
  (repeat ((apply wdp; exact rfl); (intro w hp; intros; ((first | (apply pf_load; exact rfl) | (apply pf_index; exact rfl) | exact pn_64of32 rfl rfl rfl (by assumption)) <;> (first | exact rfl | assumption | exact hp.old0 (by assumption)))); (intros; (first | exact fI rfl | exact fP rfl))))
  (apply wdp; exact rfl; (intro w hp; exact pn_quo64 rfl rfl hv1p hT64); exact fI rfl)
  (repeat ((apply wdp; exact rfl); (intro w hp; intros; apply pv_move); (intros; (first | exact fI rfl | exact fS rfl))))
  (apply wdp; exact rfl; (intro w hp; exact pv_sub rfl rfl); exact int_eq (b := ((k + 1 : Nat) : Int)) (by rw [i64_in (by omega) (by omega)]; omega))
  (repeat ((apply wdp; exact rfl); (intro w hp; intros; ((first | (apply pf_load; exact rfl) | (apply pf_index; exact rfl) | exact pn_64of32 rfl rfl rfl (by assumption)) <;> (first | exact rfl | assumption | exact hp.old0 (by assumption)))); (intros; (first | exact fI rfl | exact fP rfl))))
  (apply wdp; exact rfl; (intro w hp; exact pn_rem64 rfl rfl hv1p); exact fI rfl)
  (repeat ((apply wdp; exact rfl); (intro w hp; intros; apply pv_assign); (intros; exact fI rfl)))
  refine wpd_nil ?_
  (repeat (with_reducible first | apply WP_seq | apply WP_block | apply thenQ_n | apply WP_label))
  refine WP_loop2 [7, 8, 41, 42, 43, 44, 45, 46, 47, 48, 49, 50, 51, 52, 53, 54, 55, 56, 57, 58, 59, 60, 61, 62, 63, 64, 65, 66, 67, 68, 69, 70, 71, 72, 73, 74] (fun (G r : Nat) F => (F.put 7 (.int .u64 (G : Int))).put 8 (.int .u64 (r : Int)))
    (fun G r w' => q ≤ G ∧ G ≤ 4294967297 ∧ G * v1 + r = T ∧ Hp w [] w' []) (fun G _ => G) (T / v1) (T % v1) (put_self (put_self (Same.eq .refl) rfl) rfl) ⟨hlow, hfirst, by rw [Nat.mul_comm]; exact Nat.div_add_mod T v1, hp⟩ ?_
  clear hp
  rintro u G r w1 ⟨hG1, hG2, hGT, hp⟩
  (repeat (first | (with_reducible first | apply WP_seq | apply WP_region | apply wpl_nil | apply thenQ_n) | (apply wlp; ((first | apply pv_move | apply pv_leq) <;> exact rfl); (first | exact fI rfl | exact fB rfl))))
  refine WP_cond_d rfl (fun h => ?_) (fun h => ?_)
  · have hr : r ≤ 4294967295 := by omega
    have down := fun hd => est_step (q := q) (B := 4294967297) hGT hd hG2
    have hshr := shl32 hr
    (repeat (with_reducible first | apply WP_seq | apply WP_block | apply thenQ_n | apply WP_skip))
    refine WP_draw mixed (by kernel_rfl) (fun w' => Hp _ _ w' _) hp.drew ?_
    have hp := hp.drew
    by_cases hgb : G ≤ 4294967295
    · have hmul := mul32 hgb bv0
      obtain ⟨X, hX⟩ : ∃ X, X = G * v0 := ⟨_, rfl⟩
      rw [← hX] at hmul
      obtain ⟨Y, hY⟩ : ∃ Y, Y = r * 4294967296 + u0 := ⟨_, rfl⟩
      (apply wdp; exact rfl; (intro w hp; exact pv_move); exact fI rfl)
      (apply wdp; exact rfl; (intro w hp; exact pv_leq rfl rfl); exact bool_eq (b := true) (decide_eq_true (by omega)))
      (repeat (first | ((apply wdp; exact rfl); (intro w hp; intros; apply pv_move); (intros; (first | exact fI rfl | exact fB rfl | exact fS rfl))) | ((apply wdpT; exact rfl; exact rfl; exact rfl); (intro w hp; apply pv_move); (intros; (first | exact fI rfl | exact fB rfl | exact fS rfl))) | (apply wdpF; exact rfl; exact rfl; exact rfl; exact rfl) | (apply wdpU; exact rfl; exact rfl; exact rfl)))
      (apply wdpT; exact rfl; exact rfl; exact rfl; (intro w hp; exact pv_sub rfl rfl); exact int_eq (b := ((k : Nat) : Int)) (by rw [i64_in (by omega) (by omega)]; omega))
      (repeat (first | ((apply wdpT; exact rfl; exact rfl; exact rfl); (intro w hp; ((first | (apply pf_load; exact rfl) | (apply pf_index; exact rfl) | exact pn_64of32 rfl rfl rfl (by assumption)) <;> (first | exact rfl | assumption | exact hp.old0 (by assumption)))); (intros; (first | exact fI rfl | exact fP rfl))) | (apply wdpF; exact rfl; exact rfl; exact rfl; exact rfl) | (apply wdpU; exact rfl; exact rfl; exact rfl)))
      (apply wdpT; exact rfl; exact rfl; exact rfl; (intro w hp; exact pn_mul64 rfl rfl (by rw [← hX]; exact hmul)); exact int_eq (b := (X : Int)) (by rw [hX]))
      (repeat (first | ((apply wdpT; exact rfl; exact rfl; exact rfl); (intro w hp; apply pv_move); (intros; exact fI rfl)) | (apply wdpF; exact rfl; exact rfl; exact rfl; exact rfl) | (apply wdpU; exact rfl; exact rfl; exact rfl)))
      (apply wdpT; exact rfl; exact rfl; exact rfl; (intro w hp; exact pn_shl64 (b := 32) rfl rfl (by decide) hshr); exact fI rfl)
      (repeat (first | ((apply wdpT; exact rfl; exact rfl; exact rfl); (intro w hp; apply pv_move); (intros; (first | exact fI rfl | exact fS rfl))) | (apply wdpF; exact rfl; exact rfl; exact rfl; exact rfl) | (apply wdpU; exact rfl; exact rfl; exact rfl)))
      (apply wdpT; exact rfl; exact rfl; exact rfl; (intro w hp; exact pv_sub rfl rfl); exact int_eq (b := ((k : Nat) : Int)) (by rw [i64_in (by omega) (by omega)]; omega))
      (repeat (first | ((apply wdpT; exact rfl; exact rfl; exact rfl); (intro w hp; ((first | (apply pf_load; exact rfl) | (apply pf_index; exact rfl) | exact pn_64of32 rfl rfl rfl (by assumption)) <;> (first | exact rfl | assumption | exact hp.old0 (by assumption)))); (intros; (first | exact fI rfl | exact fP rfl))) | (apply wdpF; exact rfl; exact rfl; exact rfl; exact rfl) | (apply wdpU; exact rfl; exact rfl; exact rfl)))
      (apply wdpT; exact rfl; exact rfl; exact rfl; (intro w hp; exact pv_or64 rfl rfl hshr (by omega)); exact int_eq (b := (Y : Int)) (by rw [Nat.or_comm, or_add (k := 32) bu0, hY, Nat.add_comm]))
      (repeat (first | ((apply wdp; exact rfl); (intro w hp; intros; ((first | exact pv_andT rfl rfl | apply pv_leq) <;> exact rfl)); (intros; exact fB rfl)) | ((apply wdpT; exact rfl; exact rfl; exact rfl); (intro w hp; ((first | exact pv_andT rfl rfl | apply pv_leq) <;> exact rfl)); (intros; exact fB rfl)) | (apply wdpF; exact rfl; exact rfl; exact rfl; exact rfl) | (apply wdpU; exact rfl; exact rfl; exact rfl)))
      refine wpd_nil ?_
      (repeat with_reducible apply thenQ_n)
      refine WP_cond_d rfl (fun h3 => ?_) (fun h3 => ?_)
      · have hup := est_up hq hV0 hUge hVle (est_a (b := 4294967296) (v2 := v0) (u2 := u0) hGT (by omega) hv1p (by rw [← hX, ← hY]; omega))
        (repeat (first | (with_reducible first | apply WP_seq | apply WP_region | apply wpl_nil | apply thenQ_n | apply thenQ_exit | apply WP_ret | apply WP_exit | apply ngQ_ret) | ((with_reducible apply inBlk_same); exact rfl) | ((with_reducible apply inBlk_other); exact rfl) | (apply wlp; (first | apply pv_move | apply pv_assign); exact fI rfl)))
        exact ret_tmp rfl rfl ⟨_, rfl, G, rfl, hG1, hup, hp.keeps⟩
      · have hdn : q + 1 ≤ G := by
          exact est_down (b := 0) hq hUlt hVge (est_c (b := 4294967296) hGT hX hY (by omega))
        obtain ⟨hd1, hd2, hd3⟩ := down hdn
        (repeat (first | (with_reducible first | apply WP_seq | apply WP_region | apply thenQ_n | apply WP_skip) | (apply wlp; apply pv_move; exact fI rfl)))
        (apply wlp; exact pn_sub64 (b := 1) rfl rfl (by decide); exact int_eq (b := ((G - 1 : Nat) : Int)) (by unfold sb64; omega))
        (repeat (first | (with_reducible first | apply WP_region | apply wpl_nil | apply thenQ_n) | (apply wlp; (first | apply pv_move | apply pv_assign); (first | exact fI rfl | exact fS rfl))))
        (apply wlp; (exact pv_sub rfl rfl); exact int_eq (b := ((k + 1 : Nat) : Int)) (by rw [i64_in (by omega) (by omega)]; omega))
        (repeat (apply wlp; ((first | (apply pf_load; exact rfl) | (apply pf_index; exact rfl) | exact pn_64of32 rfl rfl rfl (by assumption)) <;> (first | exact rfl | assumption | exact hp.old0 (by assumption))); (first | exact fI rfl | exact fP rfl)))
        (apply wlp; exact pn_add64 rfl rfl (by omega); exact fI rfl)
        (repeat (first | (with_reducible first | apply wpl_nil | apply thenQ_n | apply inBlk_n) | (apply wlp; apply pv_assign; exact fI rfl)))
        exact ⟨G - 1, r + v1, put_self (put_self (Same.eq (by repeat (first | exact Same.hav | exact Same.refl | refine Same.put rfl ?_ | refine Same.havs rfl ?_))) rfl) rfl, ⟨hd1, hd2, hd3, hp⟩, by omega⟩
    · obtain ⟨hd1, hd2, hd3⟩ := down (by omega)
      (apply wdp; exact rfl; (intro w hp; exact pv_move); exact fI rfl)
      (apply wdp; exact rfl; (intro w hp; exact pv_leq rfl rfl); exact bool_eq (b := false) (decide_eq_false (by omega)))
      (repeat (first | ((apply wdp; exact rfl); (intro w hp; intros; (first | apply pv_move | exact pv_andF rfl)); (intros; exact fB rfl)) | (apply wdpF; exact rfl; exact rfl; exact rfl; exact rfl) | (apply wdpU; exact rfl; exact rfl; exact rfl)))
      refine wpd_nil ?_
      (repeat with_reducible apply thenQ_n)
      refine WP_cond_f rfl ?_
      · (repeat (first | (with_reducible first | apply WP_seq | apply WP_region | apply thenQ_n | apply WP_skip) | (apply wlp; apply pv_move; exact fI rfl)))
        (apply wlp; exact pn_sub64 (b := 1) rfl rfl (by decide); exact int_eq (b := ((G - 1 : Nat) : Int)) (by unfold sb64; omega))
        (repeat (first | (with_reducible first | apply WP_region | apply wpl_nil | apply thenQ_n) | (apply wlp; (first | apply pv_move | apply pv_assign); (first | exact fI rfl | exact fS rfl))))
        (apply wlp; (exact pv_sub rfl rfl); exact int_eq (b := ((k + 1 : Nat) : Int)) (by rw [i64_in (by omega) (by omega)]; omega))
        (repeat (apply wlp; ((first | (apply pf_load; exact rfl) | (apply pf_index; exact rfl) | exact pn_64of32 rfl rfl rfl (by assumption)) <;> (first | exact rfl | assumption | exact hp.old0 (by assumption))); (first | exact fI rfl | exact fP rfl)))
        (apply wlp; exact pn_add64 rfl rfl (by omega); exact fI rfl)
        (repeat (first | (with_reducible first | apply wpl_nil | apply thenQ_n | apply inBlk_n) | (apply wlp; apply pv_assign; exact fI rfl)))
        exact ⟨G - 1, r + v1, put_self (put_self (Same.eq (by repeat (first | exact Same.hav | exact Same.refl | refine Same.put rfl ?_ | refine Same.havs rfl ?_))) rfl) rfl, ⟨hd1, hd2, hd3, hp⟩, by omega⟩
  · have hup := est_up hq hV0 hUge hVle (est_b (b := 4294967296) (u2 := u0) hGT hG2 bv0 (by omega))
    (repeat (first | (with_reducible first | apply WP_seq | apply WP_region | apply wpl_nil | apply thenQ_n | apply thenQ_exit | apply WP_ret | apply WP_exit | apply ngQ_ret) | ((with_reducible apply inBlk_same); exact rfl) | (apply wlp; (first | apply pv_move | apply pv_assign); exact fI rfl)))
    exact ret_tmp rfl rfl ⟨_, rfl, G, rfl, hG1, hup, hp.keeps⟩
end Go.Proofs.YteklkjnhefnimaaDoor
