/- nat: digits of a string, string of digits; conditions: short numbers, the lists lie in memory. -/
import Derived.Test.YteklkjnhefnimaaDoorDe
namespace Go.Proofs.YteklkjnhefnimaaDoor
open Go.Eng Go.Dig

theorem i64_quo {i : Nat} (k : Nat) (h : i ≤ 9223372036854775807) : IntKind.i64.wrap ((i : Int).tdiv (k : Int)) = ((i / k : Nat) : Int) := by
  rw [Int.tdiv_eq_ediv_of_nonneg (by omega), ← Int.natCast_ediv]
  have h1 : ((i / k : Nat) : Int) ≤ (i : Int) := Int.ofNat_le.2 (Nat.div_le_self i k)
  have h0 : (0 : Int) ≤ ((i / k : Nat) : Int) := Int.natCast_nonneg _
  generalize ((i / k : Nat) : Int) = q at h0 h1
  exact i64_in (by omega) (by omega)
theorem int_rem (i k : Nat) : (i : Int).tmod (k : Int) = ((i % k : Nat) : Int) := by
  rw [Int.tmod_eq_emod_of_nonneg (by omega), ← Int.natCast_emod]
theorem val_ge {b : Nat} {l : List Nat} {q : Nat} (h : q < l.length) : b ^ q * l[q] ≤ val b l := by
  have h1 := val_take_drop b l q (by omega)
  rw [List.drop_eq_getElem_cons h, val, Nat.mul_add] at h1
  omega
theorem pow256 (i : Nat) : 256 ^ i = 4294967296 ^ (i / 4) * 2 ^ (8 * (i % 4)) := by
  conv => lhs; rw [← Nat.div_add_mod i 4, Nat.pow_add, Nat.pow_mul]
  rw [Nat.pow_mul 2 8]
theorem pow8 {r : Nat} (h : r < 4) : 2 ^ (8 * r) ≤ 16777216 := by
  have : 2 ^ (8 * r) ≤ 2 ^ 24 := Nat.pow_le_pow_right (by decide) (by omega)
  simpa using this
theorem byte_fit {r d : Nat} (hr : r < 4) (hd : d < 256) : (d + 1) * 2 ^ (8 * r) ≤ 4294967296 := by
  have h1 := pow8 hr
  have h2 : (d + 1) * 2 ^ (8 * r) ≤ 256 * 16777216 := Nat.mul_le_mul (by omega) h1
  omega
theorem b8_rev {x i : Nat} (h : i < (digs 256 x).length) (h2 : (digs 256 x).length - 1 - i < (digs 256 x).reverse.length) : (digs 256 x).reverse[(digs 256 x).length - 1 - i] = x / 256 ^ i % 256 := by
  rw [List.getElem_reverse, ← digs_get (b := 256) (by decide) h]
  congr 1
  omega
theorem Bd.rev {b : Nat} {l : List Nat} (h : Bd b l) : Bd b l.reverse := fun d hd => h d (by simpa using hd)

attribute [local irreducible] PV StepF wpl wpd WP Ret

theorem c45 (x : Nat) (w : World) (hl : (digs 256 x).length ≤ 100000) :
    Ret Tryd.prog 45 [.string (ofN x)] w (fun v w' => ∃ s' c', v = .slice s' (dN x).length c' ∧ DA w' x s' c' ∧ Keeps [] w w') := by
  have hx := lt_of_len (b := 256) (by decide) (Nat.le_refl (digs 256 x).length)
  have hb8 : Bd 256 (digs 256 x).reverse := Bd.rev (digs_bd (b := 256) (by decide) x)
  have hrl : (digs 256 x).reverse.length = (digs 256 x).length := by simp
  have hby := @b8_rev x
  rw [ofN_bs]
  generalize (digs 256 x).reverse = br at hb8 hrl hby
  generalize (digs 256 x).length = n at hl hx hrl hby
  obtain ⟨m, hm⟩ : ∃ m, m = (n + 3) / 4 := ⟨_, rfl⟩
  refine Ret.of_WP Tryd.func45 rfl Tryd.ntmps45 rfl ?_
  have hp := Hp.start (M := []) (w := w)
  (repeat (with_reducible first | apply WP_seq | apply WP_region))
  (apply wlp; apply pv_assign; exact fS rfl)
  (repeat (with_reducible first | apply WP_seq | apply WP_region | apply wpl_nil | apply thenQ_n))
  (apply wlp; apply pv_move; exact fT rfl)
  (apply wlp; exact pf_lenb rfl rfl; exact int_eq (b := (n : Int)) (by rw [hrl]))
  (apply wlp; (exact pv_add rfl rfl); exact int_eq (b := ((n + 3 : Nat) : Int)) (by rw [i64_in (by omega) (by omega)]; omega))
  (apply wlp; exact pv_quo rfl rfl (by decide); exact int_eq (b := (m : Int)) (by rw [hm]; exact i64_quo 4 (by omega)))
  (apply wls; exact sf_make eW 0 hp rfl rfl rfl rfl rfl rfl rfl (by omega) rfl; rintro _ w2 ⟨g, rfl, hv, hp⟩)
  (apply wlp; apply pv_assign; exact fS rfl)
  (repeat (with_reducible first | apply WP_seq | apply WP_region | apply wpl_nil | apply thenQ_n))
  (apply wlp; apply pv_move; exact fT rfl)
  (apply wlp; exact pf_lenb rfl rfl; exact int_eq (b := (n : Int)) (by rw [hrl]))
  (repeat (first | (with_reducible first | apply WP_block | apply wpl_nil | apply thenQ_n) | (apply wlp; apply pv_move; exact fI rfl)))
  refine WP_loop2 [4, 12, 13, 14, 15, 16, 17, 18, 19, 20, 21, 22, 23, 24, 25, 26, 27, 28, 29, 30, 31, 32, 33, 34] (fun (i : Nat) (_z : List Nat) F => F.put 12 (.int .i64 i))
    (fun i z w' => i ≤ n ∧ z.length = m ∧ Bd 4294967296 z ∧ val 4294967296 z = x % 256 ^ i ∧ SVL (some ⟨g, 0, none⟩) m z ∧ Hp w [] w' [ownL eW 93 1 (some ⟨g, 0, none⟩) m z])
    (fun i _ => n - i) 0 (List.replicate m 0) (put_self (Same.eq .refl) rfl) ⟨Nat.zero_le _, by simp, zeros_bd (by decide) _, by simp [val_zeros, Nat.mod_one], hv, hp⟩ ?_
  clear hp hv
  rintro u i z w3 ⟨hi, hzl, hzb, hval, hv, hp⟩
  (repeat (first | (with_reducible first | apply WP_seq | apply WP_region | apply wpl_nil | apply thenQ_n) | (apply wlp; (apply pv_lss <;> exact rfl); exact fB rfl)))
  refine WP_cond_d rfl (fun h2 => ?_) (fun h2 => ?_)
  · have hlt : i < n := by omega
    have him : i / 4 < m := by omega
    have hiz : i / 4 < z.length := by omega
    have hr : i % 4 < 4 := by omega
    have hni : n - 1 - i < br.length := by omega
    have hcz := own_elem hp 0 rfl hv (fun _ => rfl) (List.getElem?_eq_getElem hiz) 0 _ rfl
    have hge := val_ge (b := 4294967296) hiz
    have hzo := hzb.get hiz
    have hset := fun d => val_set 4294967296 z (i / 4) d hiz
    have hd := hby hlt hni
    have hdb := hb8.get hni
    generalize hq : z[i / 4] = old at hcz hge hzo hset
    generalize hbr : br[n - 1 - i] = dd at hd hdb
    have hold : old < 2 ^ (8 * (i % 4)) := by
      have h1 : val 4294967296 z < 256 ^ i := by rw [hval]; exact Nat.mod_lt _ (Nat.pow_pos (by decide))
      rw [pow256] at h1
      exact Nat.lt_of_mul_lt_mul_left (Nat.lt_of_le_of_lt hge h1)
    have hfit := byte_fit hr hdb
    have hsh : dd * 2 ^ (8 * (i % 4)) < 4294967296 := by
      rw [Nat.add_mul] at hfit
      omega
    have hnew : old + dd * 2 ^ (8 * (i % 4)) < 4294967296 := by
      rw [Nat.add_mul] at hfit
      omega
    (repeat (first | (with_reducible first | apply WP_seq | apply WP_block | apply WP_region | apply wpl_nil | apply thenQ_n | apply WP_skip) | (apply wlp; (first | apply pv_move | apply pv_assign); exact fI rfl)))
    refine WP_drawS mixed (by kernel_rfl) (fun w' => Hp w [] w' [ownL eW 93 1 (some ⟨g, 0, none⟩) m z]) hp.drew ?_
    have hp := hp.drew
    (repeat ((apply wdp; exact rfl); (intro w hp; intros; apply pv_move); (intros; (first | exact fI rfl | exact fS rfl))))
    (apply wdp; exact rfl; (intro w hp; exact pv_quo rfl rfl (by decide)); exact int_eq (b := ((i / 4 : Nat) : Int)) (i64_quo 4 (by omega)))
    (apply wdp; exact rfl; (intro w hp; exact pf_index rfl rfl rfl rfl him); exact fP rfl)
    (apply wdp; exact rfl; (intro w hp; exact pf_load rfl rfl (own_elem hp 0 rfl hv (fun _ => rfl) (List.getElem?_eq_getElem hiz) 0 _ rfl)); exact int_eq (b := (old : Int)) (by rw [hq]))
    (apply wdp; exact rfl; (intro w hp; exact pv_move); exact fT rfl)
    (apply wdp; exact rfl; (intro w hp; exact pv_move); exact fT rfl)
    (apply wdp; exact rfl; (intro w hp; exact pf_lenb rfl rfl); exact int_eq (b := (n : Int)) (by rw [hrl]))
    (apply wdp; exact rfl; (intro w hp; exact pv_sub rfl rfl); exact int_eq (b := ((n - 1 : Nat) : Int)) (by rw [i64_in (by omega) (by omega)]; omega))
    (repeat ((apply wdp; exact rfl); (intro w hp; intros; apply pv_move); (intros; exact fI rfl)))
    (apply wdp; exact rfl; (intro w hp; exact pv_sub rfl rfl); exact int_eq (b := ((n - 1 - i : Nat) : Int)) (by rw [i64_in (by omega) (by omega)]; omega))
    (apply wdp; exact rfl; (intro w hp; exact pf_at rfl rfl rfl hb8 hni); exact int_eq (b := (dd : Int)) (by rw [hbr]))
    (apply wdp; exact rfl; (intro w hp; exact pn_32of rfl rfl rfl); exact int_eq (b := (dd : Int)) (by omega))
    (repeat ((apply wdp; exact rfl); (intro w hp; intros; apply pv_move); (intros; exact fI rfl)))
    (apply wdp; exact rfl; (intro w hp; exact pv_rem rfl rfl (by decide)); exact int_eq (b := ((i % 4 : Nat) : Int)) (int_rem i 4))
    (apply wdp; exact rfl; (intro w hp; exact pv_mul rfl rfl); exact int_eq (b := ((8 * (i % 4) : Nat) : Int)) (by rw [i64_in (by omega) (by omega)]; omega))
    (apply wdp; exact rfl; (intro w hp; exact pn_shl32 rfl rfl (by omega)); exact int_eq (b := ((dd * 2 ^ (8 * (i % 4)) : Nat) : Int)) (by rw [Nat.mod_eq_of_lt hsh]))
    (apply wdp; exact rfl; (intro w hp; exact pv_or32 rfl rfl hzo hsh); exact int_eq (b := ((old + dd * 2 ^ (8 * (i % 4)) : Nat) : Int)) (by rw [or_add hold]))
    (apply wdp; exact rfl; (intro w hp; exact pf_index rfl rfl rfl rfl him); exact fP rfl)
    (apply wds0S; exact rfl; exact rfl; exact st_setL eW z (i / 4) _ hp 0 rfl hv hiz rfl rfl (fun _ => rfl) rfl rfl (sizeTy_ok rfl); rintro _ w4 ⟨rfl, hp⟩)
    refine wpd_nil ?_
    (repeat (with_reducible first | apply WP_region | apply thenQ_n | apply inBlk_n))
    (apply wlp; exact pv_add rfl rfl; exact int_eq (i64_in (by omega) (by omega)))
    (repeat (first | (with_reducible first | apply wpl_nil | apply thenQ_n) | (apply wlp; apply pv_move; exact fI rfl)))
    refine ⟨i + 1, _, put_self (Same.eq (by repeat (first | exact Same.hav | exact Same.refl | refine Same.put rfl ?_ | refine Same.havs rfl ?_))) rfl, ⟨by omega, ?_, hzb.set hnew, ?_, hv.set _ _, hp⟩, by omega⟩
    · rw [List.length_set, hzl]
    · have h1 := hset (old + dd * 2 ^ (8 * (i % 4)))
      rw [Nat.mul_add, hval] at h1
      rw [mod_step 256 x i, ← hd]
      have h3 : 256 ^ i * dd = 4294967296 ^ (i / 4) * (dd * 2 ^ (8 * (i % 4))) := by rw [pow256]; ac_rfl
      omega
  · obtain rfl : i = n := by omega
    rw [Nat.mod_eq_of_lt hx] at hval
    (repeat (first | (with_reducible first | apply WP_seq | apply WP_region | apply thenQ_n | apply thenQ_exit | apply WP_exit) | ((with_reducible apply inBlk_same); exact rfl) | (apply wlp; apply pv_move; exact fS rfl)))
    (apply wls; exact st_call rfl ent66 (by rw [hzl]; rfl) (c66d hp hv (by unfold maxLen; omega) hzb hval); rintro _ w2 ⟨s', c', rfl, hd, hk⟩)
    (repeat (first | (with_reducible first | apply wpl_nil | apply thenQ_n | apply WP_ret) | (apply wlp; apply pv_assign; exact fS rfl)))
    exact ret_tmp rfl rfl ⟨_, rfl, s', c', rfl, hd, hk⟩
end Go.Proofs.YteklkjnhefnimaaDoor
