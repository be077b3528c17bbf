/- nat: the string of digits; conditions: short numbers, the list lies in memory. -/
import Derived.Test.YteklkjnhefnimaaDoorDf
namespace Go.Proofs.YteklkjnhefnimaaDoor
open Go.Eng Go.Dig

def eB (d : Nat) : List Value := [.int .u8 (d : Int)]
theorem dg_snoc (b m : Nat) : ∀ n, dg b n (m + 1) = dg b n m ++ [n / b ^ m % b] := by
  induction m with
  | zero => intro n; simp [dg]
  | succ m ih =>
    intro n
    rw [dg, ih, Nat.div_div_eq_div_mul, Nat.pow_succ, Nat.mul_comm b]
    rfl
theorem drop_set {l : List Nat} {k d : Nat} (h : k < l.length) : (l.set k d).drop k = d :: l.drop (k + 1) := by
  rw [List.drop_eq_getElem_cons (by simpa using h), List.drop_set_of_lt (by omega)]
  simp
theorem byte_of (x i : Nat) : x / 4294967296 ^ (i / 4) % 4294967296 / 2 ^ (8 * (i % 4)) % 256 = x / 256 ^ i % 256 := by
  have hr : i % 4 < 4 := Nat.mod_lt _ (by decide)
  have e : 4294967296 = 2 ^ (8 * (i % 4)) * 2 ^ (8 * (4 - i % 4)) := by
    rw [← Nat.pow_add, show 8 * (i % 4) + 8 * (4 - i % 4) = 32 from by omega]
  have h1 : x / 4294967296 ^ (i / 4) % 4294967296 / 2 ^ (8 * (i % 4)) = x / 4294967296 ^ (i / 4) / 2 ^ (8 * (i % 4)) % 2 ^ (8 * (4 - i % 4)) := by
    conv => lhs; arg 1; arg 2; rw [e]
    exact Nat.mod_mul_right_div_self _ _ _
  have h2 : 256 ∣ 2 ^ (8 * (4 - i % 4)) := by
    rw [show (256 : Nat) = 2 ^ 8 from rfl]
    exact Nat.pow_dvd_pow 2 (by omega)
  rw [h1, Nat.mod_mod_of_dvd _ h2, Nat.div_div_eq_div_mul, ← pow256]
section
variable {n : Nat} {w0 w : World} {M : List Nat} {L : List Ent} {F : Fr} {d : Option Tmp} {ty : TypeId} {pos : String} {aft : Array Edge} {g : Option (Nat × Bool)} {x : Operand}
theorem pf_btsL {t t' b m : Nat} {z : List Nat} {c : Nat} (hp : Hp w0 M w L) (ht : slTy t = some (5, 1)) (ht' : strTy t' = true) (hx : ev n F x = .slice (some ⟨b, 0, none⟩) m c) (hl : z.length = m) (hi : L[0]? = some (ownL eB 5 1 (some ⟨b, 0, none⟩) c z)) (hv : SVL (some ⟨b, 0, none⟩) c z) :
    PV Tryd.prog n w F ⟨d, .convert t t' x, ty, pos, aft, g⟩ (.string (bs z)) := by
  rw [← bytesOf_bs]
  refine pv_bts (slTy_ok ht).1 (intTy_ok rfl) (strTy_ok ht') hx (by simpa using hl) ?_
  intro j v hj
  simp only [List.map_map, List.getElem?_map, Option.map_eq_some_iff] at hj
  obtain ⟨q, hq, rfl⟩ := hj
  have := own_elem hp 0 hi hv (fun _ => rfl) hq 0 _ rfl
  simpa using this
end

attribute [local irreducible] PV StepF wpl wpd WP Ret

theorem c38 (x : Nat) (s : Option Addr) (c : Nat) (w : World) (hd : DA w x s c) (hl : (dN x).length ≤ 100000) :
    Ret Tryd.prog 38 [.slice s (dN x).length c] w (fun v w' => v = .string (ofN x) ∧ Keeps [] w w') := by
  have hx := dN_lt (Nat.le_refl (dN x).length)
  obtain ⟨m, hm⟩ : ∃ m, m = 4 * (dN x).length := ⟨_, rfl⟩
  have hx8 : x < 256 ^ m := by
    rw [hm, Nat.pow_mul]
    exact hx
  refine Ret.of_WP Tryd.func38 rfl Tryd.ntmps38 rfl ?_
  have hp := Hp.start (M := []) (w := w)
  (repeat (first | (with_reducible first | apply WP_seq | apply WP_region | apply wpl_nil | apply thenQ_n) | (apply wlp; ((first | apply pv_move | apply pv_assign | (apply pf_len; exact rfl)) <;> exact rfl); (first | exact fI rfl | exact fS rfl | exact fT rfl))))
  (apply wlp; (exact pv_mul rfl rfl); exact int_eq (b := ((m : Nat) : Int)) (by rw [i64_in (by omega) (by omega)]; omega))
  (apply wls; exact sf_make eB 0 hp rfl rfl rfl rfl rfl rfl rfl (by omega) rfl; rintro _ w2 ⟨g, rfl, hv, hp⟩)
  (repeat (first | (with_reducible first | apply WP_seq | apply WP_block | apply WP_region | apply wpl_nil | apply thenQ_n) | (apply wlp; ((first | apply pv_move | apply pv_assign | (apply pf_len; exact rfl)) <;> exact rfl); (first | exact fI rfl | exact fS rfl))))
  refine WP_loop2 [4, 11, 12, 13, 14, 15, 16, 17, 18, 19, 20, 21, 22, 23, 24, 25, 26, 27, 28, 29, 30, 31] (fun (i : Nat) (_z : List Nat) F => F.put 11 (.int .i64 i))
    (fun i z w' => i ≤ m ∧ z.length = m ∧ Bd 256 z ∧ z.drop (m - i) = (dg 256 x i).reverse ∧ SVL (some ⟨g, 0, none⟩) m z ∧ Hp w [] w' [ownL eB 5 1 (some ⟨g, 0, none⟩) m z])
    (fun i _ => m - i) 0 (List.replicate m 0) (put_self (Same.eq .refl) rfl) ⟨Nat.zero_le _, by simp, zeros_bd (by decide) _, by simp [dg], hv, hp⟩ ?_
  clear hp hv
  rintro u i z w3 ⟨hi, hzl, hzb, hval, hv, hp⟩
  (repeat (first | (with_reducible first | apply WP_seq | apply WP_region | apply wpl_nil | apply thenQ_n) | (apply wlp; (apply pv_lss <;> exact rfl); exact fB rfl)))
  refine WP_cond_d rfl (fun h2 => ?_) (fun h2 => ?_)
  · have hlt : i < m := by omega
    have hq : i / 4 < (dN x).length := by omega
    have hk : m - 1 - i < m := by omega
    have hkz : m - 1 - i < z.length := by omega
    obtain ⟨b0, o0, hs0, hc0⟩ := hd.at_.base (by omega)
    have hci := hc0 (i / 4) _ (List.getElem?_eq_getElem hq) 0 _ rfl
    have hg := dN_get hq
    generalize (dN x)[i / 4] = dx at hci hg
    have hby := byte_of x i
    rw [← hg] at hby
    (repeat (first | (with_reducible first | apply WP_seq | apply WP_block | apply WP_region | apply wpl_nil | apply thenQ_n | apply WP_skip) | (apply wlp; ((first | apply pv_move | apply pv_assign | (apply pf_len; exact rfl)) <;> exact rfl); (first | exact fI rfl | exact fS rfl))))
    (apply wlp; (exact pv_sub rfl rfl); exact int_eq (b := ((m - 1 : Nat) : Int)) (by rw [i64_in (by omega) (by omega)]; omega))
    (repeat (apply wlp; apply pv_move; exact fI rfl))
    (apply wlp; (exact pv_sub rfl rfl); exact int_eq (b := ((m - 1 - i : Nat) : Int)) (by rw [i64_in (by omega) (by omega)]; omega))
    (repeat (apply wlp; apply pv_move; (first | exact fI rfl | exact fS rfl)))
    (apply wlp; exact pv_quo rfl rfl (by decide); exact int_eq (b := ((i / 4 : Nat) : Int)) (i64_quo 4 (by omega)))
    (repeat (apply wlp; ((first | apply pv_move | (apply pf_load; exact rfl) | (apply pf_index; exact rfl)) <;> (first | exact rfl | assumption | exact hp.old0 (by assumption))); (first | exact fI rfl | exact fP rfl)))
    (apply wlp; exact pv_rem rfl rfl (by decide); exact int_eq (b := ((i % 4 : Nat) : Int)) (int_rem i 4))
    (apply wlp; exact pv_mul rfl rfl; exact int_eq (b := ((8 * (i % 4) : Nat) : Int)) (by rw [i64_in (by omega) (by omega)]; omega))
    (apply wlp; exact pn_shr rfl rfl (by show 8 * (i % 4) ≤ 32; omega); exact fI rfl)
    (apply wlp; exact pn_8of rfl rfl rfl; exact int_eq (b := ((x / 256 ^ i % 256 : Nat) : Int)) (by rw [hby]))
    (repeat (apply wlp; ((apply pf_index; exact rfl) <;> (first | exact rfl | assumption)); exact fP rfl))
    (apply wls0; exact st_setL eB z (m - 1 - i) _ hp 0 rfl hv hkz rfl rfl (fun _ => rfl) rfl rfl (sizeTy_ok rfl); rintro _ w4 ⟨rfl, hp⟩)
    (repeat (with_reducible first | apply WP_region | apply wpl_nil | apply thenQ_n | apply inBlk_n))
    (apply wlp; exact pv_add rfl rfl; exact int_eq (i64_in (by omega) (by omega)))
    (repeat (first | (with_reducible first | apply wpl_nil | apply thenQ_n) | (apply wlp; apply pv_move; exact fI rfl)))
    refine ⟨i + 1, _, put_self (Same.eq (by repeat (first | exact Same.hav | exact Same.refl | refine Same.put rfl ?_ | refine Same.havs rfl ?_))) rfl, ⟨by omega, ?_, hzb.set (Nat.mod_lt _ (by decide)), ?_, hv.set _ _, hp⟩, by omega⟩
    · rw [List.length_set, hzl]
    · rw [show m - (i + 1) = m - 1 - i from by omega, drop_set hkz, dg_snoc, List.reverse_append, ← hval, show m - 1 - i + 1 = m - i from by omega]
      rfl
  · obtain rfl : i = m := by omega
    rw [Nat.sub_self, List.drop_zero] at hval
    have hzl' : z.length ≤ 9223372036854775807 := by omega
    (repeat (first | (with_reducible first | apply WP_seq | apply WP_region | apply thenQ_n | apply thenQ_exit | apply WP_exit) | ((with_reducible apply inBlk_same); exact rfl) | (apply wlp; (first | apply pv_move | apply pf_conv); exact fS rfl)))
    (apply wlp; exact pf_btsL hp rfl rfl rfl hzl rfl hv; exact fT rfl)
    (apply wls; exact st_call rfl ent65 rfl (c65 z _ hzb hzl'))
    rintro _ w4 ⟨rfl, hk⟩
    have hp := hp.call hk
    (repeat (first | (with_reducible first | apply wpl_nil | apply thenQ_n | apply WP_ret) | (apply wlp; apply pv_assign; exact fT rfl)))
    refine ret_tmp rfl rfl ⟨_, rfl, ?_, hp.keeps⟩
    rw [ofN_bs, ← strip_dg hx8, hval]
    rfl
end Go.Proofs.YteklkjnhefnimaaDoor
