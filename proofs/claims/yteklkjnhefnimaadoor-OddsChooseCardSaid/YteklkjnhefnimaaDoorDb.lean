/- nat: join, split, compare; conditions: the lists lie in memory. -/
import Derived.Test.YteklkjnhefnimaaDoorDa
namespace Go.Proofs.YteklkjnhefnimaaDoor
open Go.Eng Go.Dig

attribute [local irreducible] PV StepF wpl wpd WP Ret

/-- the digits of a number to the base 2^32 -/
def dN (x : Nat) : List Nat := digs 4294967296 x
theorem dN_bd (x : Nat) : Bd 4294967296 (dN x) := digs_bd (by decide) x
theorem dN_val (x : Nat) : val 4294967296 (dN x) = x := digs_val (by decide) x
theorem dN_get {x i : Nat} (h : i < (dN x).length) : (dN x)[i] = x / 4294967296 ^ i % 4294967296 := digs_get (by decide) h
theorem dN_beyond {x i : Nat} (h : (dN x).length ≤ i) : x / 4294967296 ^ i % 4294967296 = 0 := digs_beyond (by decide) h
theorem dN_lt {x i : Nat} (h : (dN x).length ≤ i) : x < 4294967296 ^ i := lt_of_len (by decide) h
theorem dN_len {x i : Nat} (h : x < 4294967296 ^ i) : (dN x).length ≤ i := len_of_lt (by decide) h
theorem dN_zero : dN 0 = [] := rfl
theorem dN_nil {x : Nat} : dN x = [] ↔ x = 0 := digs_eq_nil (by decide)
theorem trim_dN {l : List Nat} (h : Bd 4294967296 l) : trimL l = dN (val 4294967296 l) := trimL_digs (by decide) h
/-- a number's digits lie in memory -/
structure DA (w : World) (x : Nat) (s : Option Addr) (c : Nat) : Prop where
  cap : (dN x).length ≤ c
  max : c ≤ maxLen
  at_ : SlAt w 1 eW s (dN x)
theorem DA.keep {w w' : World} {x : Nat} {s : Option Addr} {c : Nat} (h : DA w x s c) (hk : Keeps [] w w') : DA w' x s c := ⟨h.cap, h.max, h.at_.keep0 hk⟩
theorem DA.zero (w : World) : DA w 0 none 0 := ⟨by simp [dN_zero], by simp, by intro i x hx; simp [dN_zero] at hx⟩
theorem DA.len {w : World} {x : Nat} {s : Option Addr} {c : Nat} (h : DA w x s c) : (dN x).length ≤ 9223372036854775807 := by
  have h1 := h.cap
  have h2 := h.max
  unfold maxLen at h2
  omega
/-- trim, as it is called behind a loop -/
theorem c66d {w0 w : World} {z : List Nat} {g c x : Nat} (hp : Hp w0 [] w [ownL eW 93 1 (some ⟨g, 0, none⟩) c z]) (hv : SVL (some ⟨g, 0, none⟩) c z) (hc : c ≤ maxLen) (hb : Bd 4294967296 z) (hx : val 4294967296 z = x) :
    Ret Tryd.prog 66 [.slice (some ⟨g, 0, none⟩) z.length c] w (fun v w' => ∃ s' c', v = .slice s' (dN x).length c' ∧ DA w' x s' c' ∧ Keeps [] w0 w') := by
  have hs : SlAt w 1 eW (some ⟨g, 0, none⟩) z := ownL_At hp 0 rfl hv (fun _ => rfl)
  refine Ret.mono (c66 z _ c w hv.cap hc hs) ?_
  rintro v w' ⟨rfl, hk⟩
  have e : trimL z = dN x := by rw [trim_dN hb, hx]
  refine ⟨_, _, sl_eq (by rw [e]), ⟨?_, hc, ?_⟩, hp.keeps.trans hk (by simp)⟩
  · rw [← e]
    exact Nat.le_trans (trimL_pre z).length_le hv.cap
  · rw [← e]
    exact (hs.pre (trimL_pre z)).keep0 hk

theorem or_add {a k d : Nat} (h : a < 2 ^ k) : a ||| (d * 2 ^ k) = a + d * 2 ^ k := by
  rw [Nat.or_comm, Nat.mul_comm, ← Nat.two_pow_add_eq_or_of_lt h d, Nat.add_comm]

theorem c58 (x : Nat) (s : Option Addr) (c : Nat) (w : World) (hx : x < 18446744073709551616) (hd : DA w x s c) :
    Ret Tryd.prog 58 [.slice s (dN x).length c] w (fun v w' => v = .int .u64 (x : Int) ∧ Keeps [] w w') := by
  have hl2 : (dN x).length ≤ 2 := dN_len (by simpa using hx)
  refine Ret.of_WP Tryd.func58 rfl Tryd.ntmps58 rfl ?_
  have hp := Hp.start (M := []) (w := w)
  (repeat (first | (with_reducible first | apply WP_seq | apply WP_block | apply WP_region | apply wpl_nil | apply thenQ_n) | (apply wlp; ((first | apply pv_move | apply pv_assign | (apply pf_len; exact rfl)) <;> exact rfl); (first | exact fI rfl | exact fS rfl))))
  refine WP_loopS [3, 4, 5, 8, 9, 10, 11, 12, 13, 14, 15, 16, 17, 18, 19, 20] (fun (i : Nat) F => (F.put 3 (.int .u64 ((x % 4294967296 ^ i : Nat) : Int))).put 8 (.int .i64 i)) (fun i w' => i ≤ (dN x).length ∧ Hp w [] w' []) (fun i => (dN x).length - i) 0 (put_self (put_self (Same.eq .refl) (int_eq (by simp [Nat.mod_one]))) rfl) ⟨Nat.zero_le _, hp⟩ ?_
  clear hp
  rintro u i w1 ⟨hi, hp⟩
  (repeat (first | (with_reducible first | apply WP_seq | apply WP_region | apply wpl_nil | apply thenQ_n) | (apply wlp; (apply pv_lss <;> exact rfl); exact fB rfl)))
  refine WP_cond_d rfl (fun h2 => ?_) (fun h2 => ?_)
  · have hlt : i < (dN x).length := by omega
    obtain ⟨b0, o0, hs0, hc0⟩ := hd.at_.base (by omega)
    have hci := hc0 i _ (List.getElem?_eq_getElem hlt) 0 _ rfl
    have hbd := (dN_bd x).get hlt
    have hg := dN_get hlt
    generalize (dN x)[i] = di at hci hbd hg
    have e32 : 4294967296 ^ i = 2 ^ (32 * i) := by rw [Nat.pow_mul]
    have hmod : x % 4294967296 ^ i < 2 ^ (32 * i) := by rw [← e32]; exact Nat.mod_lt _ (Nat.pow_pos (by decide))
    have hm64 : x % 4294967296 ^ i < 18446744073709551616 := Nat.lt_of_le_of_lt (Nat.mod_le _ _) hx
    have hstep := mod_step 4294967296 x i
    rw [← hg] at hstep
    have hstep2 : x % 4294967296 ^ (i + 1) = x % 4294967296 ^ i + di * 2 ^ (32 * i) := by rw [hstep, e32, Nat.mul_comm (2 ^ (32 * i)) di]
    have hle : di * 2 ^ (32 * i) < 18446744073709551616 := by
      have := Nat.mod_le x (4294967296 ^ (i + 1))
      omega
    (repeat (first | (with_reducible first | apply WP_seq | apply WP_block | apply WP_region | apply wpl_nil | apply thenQ_n | apply WP_skip) | (apply wlp; ((first | apply pv_move | apply pv_assign | (apply pf_load; exact rfl) | (apply pf_index; exact rfl) | exact pn_64of32 rfl rfl rfl (by assumption)) <;> (first | exact rfl | assumption | exact hp.old0 (by assumption))); (first | exact fI rfl | exact fP rfl))))
    (apply wlp; (exact pv_mul rfl rfl); exact int_eq (b := ((32 * i : Nat) : Int)) (by rw [i64_in (by omega) (by omega)]; omega))
    (apply wlp; exact pn_shl64 rfl rfl (by omega) hle; exact fI rfl)
    (apply wlp; exact pv_or64 rfl rfl hm64 hle; exact int_eq (b := ((x % 4294967296 ^ (i + 1) : Nat) : Int)) (by rw [or_add hmod, hstep2]))
    (repeat (first | (with_reducible first | apply WP_region | apply wpl_nil | apply thenQ_n | apply inBlk_n) | (apply wlp; apply pv_assign; exact fI rfl)))
    (apply wlp; exact pv_add rfl rfl; exact int_eq (i64_in (by omega) (by omega)))
    (repeat (first | (with_reducible first | apply wpl_nil | apply thenQ_n) | (apply wlp; apply pv_move; exact fI rfl)))
    exact ⟨i + 1, put_self (put_self (Same.eq (by repeat (first | exact Same.hav | exact Same.refl | refine Same.put rfl ?_ | refine Same.havs rfl ?_))) rfl) rfl, ⟨by omega, hp⟩, by omega⟩
  · (repeat (first | (with_reducible first | apply WP_seq | apply WP_region | apply wpl_nil | apply thenQ_n | apply thenQ_exit | apply WP_ret | apply WP_exit) | ((with_reducible apply inBlk_same); exact rfl) | (apply wlp; (first | apply pv_move | apply pv_assign); exact fI rfl)))
    refine ret_tmp rfl rfl ⟨_, rfl, int_eq ?_, hp.keeps⟩
    rw [Nat.mod_eq_of_lt (dN_lt (by omega))]

theorem c39 (x : Nat) (w : World) (hx : x < 18446744073709551616) :
    Ret Tryd.prog 39 [.int .u64 (x : Int)] w (fun v w' => ∃ s' c', v = .slice s' (dN x).length c' ∧ DA w' x s' c' ∧ Keeps [] w w') := by
  refine Ret.of_WP Tryd.func39 rfl Tryd.ntmps39 rfl ?_
  have hp := Hp.start (M := []) (w := w)
  (repeat (first | (with_reducible first | apply WP_seq | apply WP_region | apply wpl_nil | apply thenQ_n) | (apply wlp; (first | apply pv_move | apply pv_assign | exact pn_32of rfl rfl rfl); (first | exact fI rfl | exact fS rfl))))
  (apply wlp; exact pn_shr (b := 32) rfl rfl (by decide); exact int_eq (b := ((x / 4294967296 : Nat) : Int)) rfl)
  (apply wlp; exact pn_32of rfl rfl rfl; exact int_eq (b := ((x / 4294967296 : Nat) : Int)) (by omega))
  (apply wls; exact sf_slice hp rfl rfl rfl rfl rfl rfl rfl; rintro _ w1 ⟨nb, rfl, hp⟩)
  have hp : Hp w [] w1 [ownL eW 93 1 (some ⟨nb, 0, none⟩) 2 [x % 4294967296, x / 4294967296]] := hp.rowOf 0 1 2 rfl rfl
  have hv : SVL (some ⟨nb, 0, none⟩) 2 [x % 4294967296, x / 4294967296] := .inr ⟨nb, 2, rfl, Nat.le_refl _, by unfold maxLen; omega⟩
  have hb : Bd 4294967296 [x % 4294967296, x / 4294967296] := .cons (by omega) (.cons (by omega) .nil)
  (apply wls; exact st_call rfl ent66 rfl (c66d hp hv (by unfold maxLen; omega) hb (x := x) (by simp only [val]; omega)); rintro _ w2 ⟨s', c', rfl, hd, hk⟩)
  (repeat (first | (with_reducible first | apply wpl_nil | apply thenQ_n | apply WP_ret) | (apply wlp; apply pv_assign; exact fS rfl)))
  exact ret_tmp rfl rfl ⟨_, rfl, s', c', rfl, hd, hk⟩

theorem c71 (x y : Nat) (s s2 : Option Addr) (c c2 : Nat) (w : World) (hx : DA w x s c) (hy : DA w y s2 c2) :
    Ret Tryd.prog 71 [.slice s (dN x).length c, .slice s2 (dN y).length c2] w (fun v w' => v = .int .i64 (if x < y then -1 else if x = y then 0 else 1) ∧ Keeps [] w w') := by
  have hlx := hx.len
  have hly := hy.len
  refine Ret.of_WP Tryd.func71 rfl Tryd.ntmps71 rfl ?_
  have hp := Hp.start (M := []) (w := w)
  (repeat (first | (with_reducible first | apply WP_seq | apply WP_region | apply wpl_nil | apply thenQ_n) | (apply wlp; ((first | apply pv_move | apply pv_assign | (apply pf_len; exact rfl) | (apply pv_neq; (first | exact rfl | exact ev_sel rfl (by assumption)))) <;> exact rfl); (first | exact fI rfl | exact fB rfl | exact fS rfl))))
  refine WP_cond_nd rfl (fun h => ?_) (fun h => ?_)
  · (repeat (first | (with_reducible first | apply WP_seq | apply WP_region | apply wpl_nil | apply thenQ_n) | (apply wlp; ((first | apply pv_move | (apply pf_len; exact rfl) | apply pv_lss) <;> exact rfl); (first | exact fI rfl | exact fB rfl | exact fS rfl))))
    refine WP_cond_d rfl (fun h2 => ?_) (fun h2 => ?_)
    · have hlt : x < y := digs_len_lt (b := 4294967296) (by decide) (by have : (dN x).length < (dN y).length := by omega
                                                                        exact this)
      (repeat (first | (with_reducible first | apply WP_seq | apply WP_region | apply wpl_nil | apply thenQ_n | apply thenQ_ret | apply WP_ret) | (apply wlp; apply pv_assign; exact fI rfl)))
      exact ret_tmp rfl rfl ⟨_, rfl, int_eq (by rw [if_pos hlt]), hp.keeps⟩
    · have hlt : y < x := digs_len_lt (b := 4294967296) (by decide) (by have : (dN y).length < (dN x).length := by omega
                                                                        exact this)
      (repeat (first | (with_reducible first | apply WP_seq | apply WP_region | apply wpl_nil | apply thenQ_n | apply thenQ_ret | apply WP_ret | apply WP_skip) | (apply wlp; apply pv_assign; exact fI rfl)))
      exact ret_tmp rfl rfl ⟨_, rfl, int_eq (by rw [if_neg (by omega), if_neg (by omega)]), hp.keeps⟩
  · have hl : (dN x).length = (dN y).length := by omega
    (repeat (first | (with_reducible first | apply WP_seq | apply WP_region | apply thenQ_n | apply WP_skip) | (apply wlp; ((first | apply pv_move | (apply pf_len; exact rfl)) <;> exact rfl); (first | exact fI rfl | exact fS rfl))))
    (apply wlp; exact pv_sub rfl rfl; exact int_eq (i64_in (by omega) (by omega)))
    (repeat (first | (with_reducible first | apply WP_block | apply wpl_nil | apply thenQ_n) | (apply wlp; apply pv_assign; exact fI rfl)))
    refine WP_loopS [4, 5, 19, 20, 21, 22, 23, 24, 25, 26, 27, 28, 29, 30, 31, 32, 33, 34, 35, 36, 37, 38, 39, 40] (fun (i : Nat) F => F.put 5 (.int .i64 ((i : Int) - 1))) (fun i w' => i ≤ (dN x).length ∧ x / 4294967296 ^ i = y / 4294967296 ^ i ∧ Hp w [] w' []) (fun i => i) (dN x).length (put_self (Same.eq .refl) rfl) ⟨Nat.le_refl _, ?_, hp⟩ ?_
    · rw [Nat.div_eq_of_lt (dN_lt (Nat.le_refl _)), Nat.div_eq_of_lt (dN_lt (by omega))]
    clear hp
    rintro u i w1 ⟨hi, he, hp⟩
    (repeat (first | (with_reducible first | apply WP_seq | apply WP_region | apply wpl_nil | apply thenQ_n) | (apply wlp; ((first | apply pv_move | apply pv_geq) <;> exact rfl); (first | exact fI rfl | exact fB rfl))))
    refine WP_cond_d rfl (fun h2 => ?_) (fun h2 => ?_)
    · obtain ⟨j, rfl⟩ : ∃ j, i = j + 1 := ⟨i - 1, by omega⟩
      have hlt : j < (dN x).length := by omega
      have hlt2 : j < (dN y).length := by omega
      obtain ⟨b0, o0, hs0, hc0⟩ := hx.at_.base (by omega)
      have hci := hc0 j _ (List.getElem?_eq_getElem hlt) 0 _ rfl
      obtain ⟨b1, o1, hs1, hc1⟩ := hy.at_.base (by omega)
      have hcj := hc1 j _ (List.getElem?_eq_getElem hlt2) 0 _ rfl
      have hg := dN_get hlt
      have hg2 := dN_get hlt2
      generalize (dN x)[j] = dx at hci hg
      generalize (dN y)[j] = dy at hcj hg2
      have ej : ((j + 1 : Nat) : Int) - 1 = (j : Int) := by omega
      rw [ej]
      (repeat (with_reducible first | apply WP_seq | apply WP_block | apply thenQ_n | apply WP_skip))
      refine WP_draw mixed (by kernel_rfl) (fun w' => Hp _ _ w' _) hp.drew ?_
      have hp := hp.drew
      (repeat ((apply wdp; exact rfl); (intro w hp; intros; ((first | apply pv_move | (apply pf_load; exact rfl) | (apply pv_neq; (first | exact rfl | exact ev_sel rfl (by assumption))) | (apply pf_index; exact rfl)) <;> (first | exact rfl | assumption | exact hp.old0 (by assumption)))); (intros; (first | exact fI rfl | exact fB rfl | exact fP rfl | exact fS rfl))))
      refine wpd_nil ?_
      (repeat with_reducible apply thenQ_n)
      refine WP_cond_nd rfl (fun h => ?_) (fun h => ?_)
      · (repeat with_reducible apply WP_seq)
        refine WP_draw mixed (by kernel_rfl) (fun w' => Hp _ _ w' _) hp.drew ?_
        have hp := hp.drew
        (repeat ((apply wdp; exact rfl); (intro w hp; intros; ((first | apply pv_move | (apply pf_load; exact rfl) | apply pv_lss | (apply pf_index; exact rfl)) <;> (first | exact rfl | assumption | exact hp.old0 (by assumption)))); (intros; (first | exact fI rfl | exact fB rfl | exact fP rfl | exact fS rfl))))
        refine wpd_nil ?_
        (repeat with_reducible apply thenQ_n)
        refine WP_cond_d rfl (fun h3 => ?_) (fun h3 => ?_)
        · have hlt3 : x < y := lt_of_digit (b := 4294967296) (i := j) (by decide) he (by omega)
          (repeat (first | (with_reducible first | apply WP_seq | apply WP_region | apply wpl_nil | apply thenQ_n | apply thenQ_ret | apply inBlk_ret | apply WP_ret) | (apply wlp; apply pv_assign; exact fI rfl)))
          exact ret_tmp rfl rfl ⟨_, rfl, int_eq (by rw [if_pos hlt3]), hp.keeps⟩
        · have hlt3 : y < x := lt_of_digit (b := 4294967296) (i := j) (by decide) he.symm (by omega)
          (repeat (first | (with_reducible first | apply WP_seq | apply WP_region | apply wpl_nil | apply thenQ_n | apply thenQ_ret | apply inBlk_ret | apply WP_ret | apply WP_skip) | (apply wlp; apply pv_assign; exact fI rfl)))
          exact ret_tmp rfl rfl ⟨_, rfl, int_eq (by rw [if_neg (by omega), if_neg (by omega)]), hp.keeps⟩
      · (repeat (first | (with_reducible first | apply WP_region | apply thenQ_n | apply inBlk_n | apply WP_skip) | (apply wlp; apply pv_move; exact fI rfl)))
        (apply wlp; exact pv_sub rfl rfl; exact int_eq (i64_in (by omega) (by omega)))
        (repeat (first | (with_reducible first | apply wpl_nil | apply thenQ_n) | (apply wlp; apply pv_assign; exact fI rfl)))
        refine ⟨j, put_self (Same.eq (by repeat (first | exact Same.hav | exact Same.refl | refine Same.put rfl ?_ | refine Same.havs rfl ?_))) rfl, ⟨by omega, ?_, hp⟩, by omega⟩
        rw [div_step 4294967296 x j, div_step 4294967296 y j, he, ← hg, ← hg2]
        have : dx = dy := by omega
        rw [this]
    · obtain rfl : i = 0 := by omega
      have hxy : x = y := by simpa using he
      (repeat (first | (with_reducible first | apply WP_seq | apply WP_region | apply wpl_nil | apply thenQ_n | apply thenQ_exit | apply WP_ret | apply WP_exit) | ((with_reducible apply inBlk_same); exact rfl) | (apply wlp; apply pv_assign; exact fI rfl)))
      exact ret_tmp rfl rfl ⟨_, rfl, int_eq (by rw [if_neg (by omega), if_pos hxy]), hp.keeps⟩
end Go.Proofs.YteklkjnhefnimaaDoor
