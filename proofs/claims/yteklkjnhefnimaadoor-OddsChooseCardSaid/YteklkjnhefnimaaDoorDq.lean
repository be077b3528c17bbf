/- nat: divide in general (long division); conditions: a divisor other than 0, the lists lie in memory and are short. -/
import Derived.Test.YteklkjnhefnimaaDoorDp
namespace Go.Proofs.YteklkjnhefnimaaDoor
open Go.Eng Go.Dig

theorem val_set0 {b : Nat} {l : List Nat} {j d : Nat} (hj : j < l.length) (h0 : l[j] = 0) : val b (l.set j d) = val b l + b ^ j * d := by
  have := val_set b l j d hj
  rw [h0] at this
  omega
theorem take_zero_set {l : List Nat} {j d : Nat} (h : l.take (j + 1) = List.replicate (j + 1) 0) : (l.set j d).take j = List.replicate j 0 := by
  rw [List.take_set, List.set_eq_of_length_le (by simp; omega)]
  have := congrArg (List.take j) h
  rw [List.take_take, Nat.min_eq_left (by omega), List.take_replicate, Nat.min_eq_left (by omega)] at this
  exact this
theorem zero_at {l : List Nat} {j : Nat} (h : l.take (j + 1) = List.replicate (j + 1) 0) (hj : j < l.length) : l[j] = 0 := by
  have h1 : (l.take (j + 1))[j]? = some l[j] := by rw [List.getElem?_take, if_pos (by omega), List.getElem?_eq_getElem hj]
  rw [h, List.getElem?_replicate, if_pos (by omega)] at h1
  simpa using h1.symm
theorem dg_take2 (b v n : Nat) : (dg b v (n + 1)).take n = dg b v n := by
  rw [dg_snoc, List.take_left' (dg_len b n v)]
theorem val_take_all {b : Nat} {l : List Nat} {n : Nat} (hb : 0 < b) (hl : n ≤ l.length) (h : val b l < b ^ n) : val b (l.take n) = val b l := by
  have e := val_take_drop b l n hl
  rcases Nat.eq_zero_or_pos (val b (l.drop n)) with h0 | h0
  · rw [e, h0]; simp
  · have : b ^ n * 1 ≤ b ^ n * val b (l.drop n) := Nat.mul_le_mul_left _ h0
    omega
theorem sl74 : Tryd.prog.underlying 74 = some (.slice 93) ∧ TSize Tryd.prog 93 1 := slTy_ok rfl

attribute [local irreducible] PV StepF wpl wpd WP Ret

theorem c54d (x y k e : Nat) (s s2 : Option Addr) (c c2 : Nat) (w : World) (hx : DA w x s c) (hy : DA w y s2 c2) (hle : y ≤ x) (hlx : (dN x).length = k + 2 + e) (hly : (dN y).length = k + 2) (hl : 2 < k + 2 + e) (hmx : k + 2 + e ≤ 100000) :
    Ret Tryd.prog 54 [.slice s (k + 2 + e) c, .slice s2 (k + 2) c2] w (fun v w' => ∃ s' c' s3 c3, v = .tuple #[.slice s' (dN (x / y)).length c', .slice s3 (dN (x % y)).length c3] ∧ DA w' (x / y) s' c' ∧ DA w' (x % y) s3 c3 ∧ Keeps [] w w') := by
  have hy0 : 0 < y := by
    rcases Nat.eq_zero_or_pos y with h | h
    · subst h; simp [dN_zero] at hly
    · exact h
  have k1y : k + 1 < k + 2 := by omega
  have hky : k + 1 < (dN y).length := by omega
  have h71 := c71 x y s s2 c c2 w hx hy
  rw [hlx, hly] at h71
  obtain ⟨b0, o0, hs0, hc0⟩ := hy.at_.base (by omega)
  have hci := hc0 (k + 1) _ (List.getElem?_eq_getElem hky) 0 _ rfl
  have hg := dN_get hky
  have hgb := (dN_bd y).get hky
  have hg0 : 0 < (dN y)[k + 1] := by
    have hlast := digs_last (b := 4294967296) (by decide) y ((dN y).take (k + 1)) (dN y)[k + 1] (by
      show dN y = _
      rw [← List.take_succ_eq_append_getElem hky, List.take_of_length_le (by omega)])
    omega
  generalize (dN y)[k + 1] = t at hci hg hgb hg0
  have hylt : y < 4294967296 ^ (k + 1 + 1) := dN_lt (by omega)
  refine Ret.of_WP Tryd.func54 rfl Tryd.ntmps54 rfl ?_
  have hp := Hp.start (M := []) (w := w)
  (repeat (first | (with_reducible first | apply WP_seq | apply WP_region | apply wpl_nil | apply thenQ_n) | (apply wlp; (first | apply pv_move | apply pv_assign); exact fS rfl)))
  (apply wls; exact st_call rfl ent71 rfl h71)
  rintro _ w1 ⟨rfl, hk⟩
  have hp := hp.call hk
  (apply wlp; exact pv_lss rfl rfl; exact bool_eq (b := false) (decide_eq_false (by rw [if_neg (by omega)]; split <;> omega)))
  (repeat (with_reducible first | apply wpl_nil | apply thenQ_n))
  refine WP_cond_f rfl ?_
  (repeat (first | (with_reducible first | apply WP_seq | apply WP_region | apply wpl_nil | apply thenQ_n | apply WP_skip) | (apply wlp; ((first | apply pv_move | (apply pf_len; exact rfl) | apply pv_leq) <;> exact rfl); (first | exact fI rfl | exact fB rfl | exact fS rfl))))
  refine WP_cond_d rfl (fun h => absurd hl (by omega)) (fun _ => ?_)
  (repeat (first | (with_reducible first | apply WP_seq | apply WP_region | apply wpl_nil | apply thenQ_n | apply WP_skip) | (apply wlp; ((first | apply pv_move | (apply pf_len; exact rfl) | (apply pv_eql; (first | exact rfl | exact ev_sel rfl (by assumption)))) <;> exact rfl); (first | exact fI rfl | exact fB rfl | exact fS rfl))))
  refine WP_cond_d rfl (fun h => absurd h (by omega)) (fun _ => ?_)
  (repeat (first | (with_reducible first | apply WP_seq | apply WP_region | apply wpl_nil | apply thenQ_n | apply WP_skip) | (apply wlp; ((first | apply pv_move | apply pv_assign | (apply pf_len; exact rfl)) <;> exact rfl); (first | exact fI rfl | exact fS rfl))))
  (apply wlp; (exact pv_sub rfl rfl); exact int_eq (b := ((k + 1 : Nat) : Int)) (by rw [i64_in (by omega) (by omega)]; omega))
  (repeat (apply wlp; ((first | (apply pf_load; exact rfl) | (apply pf_index; exact rfl)) <;> (first | exact rfl | assumption | exact hp.old0 (by assumption))); (first | exact fI rfl | exact fP rfl)))
  (apply wls; exact st_call rfl ent75 rfl (c75 t _ hg0 hgb))
  rintro _ w2 ⟨sh, rfl, hsh, ht1, ht2, hk⟩
  have hp := hp.call hk
  obtain ⟨hn1, hn2⟩ := norm_v hg.symm hylt hsh ht1 ht2
  have h76x := c76 x sh s c w2 (hx.keep hp.keeps) (by omega) hsh
  rw [hlx] at h76x
  (repeat (first | (with_reducible first | apply WP_seq | apply WP_region | apply wpl_nil | apply thenQ_n) | (apply wlp; (first | apply pv_move | apply pv_assign); (first | exact fI rfl | exact fS rfl))))
  (apply wls; exact st_call rfl ent76 rfl h76x)
  rintro _ w3 ⟨gu, rfl, hvu, hpu⟩
  have hp := hp.join hpu
  have h76y := c76 y sh s2 c2 w3 (hy.keep hp.keeps) (by omega) hsh
  rw [hly] at h76y
  (repeat (apply wlp; apply pv_move; (first | exact fI rfl | exact fS rfl)))
  (apply wls; exact st_call rfl ent76 rfl h76y)
  rintro _ w4 ⟨gv, rfl, hvv, hpv⟩
  have hp := hp.join hpv
  clear h71 h76x h76y hpu hpv
  obtain ⟨v, hvdef⟩ : ∃ v, v = y * 2 ^ sh := ⟨_, rfl⟩
  rw [← hvdef] at hn1 hn2 hvv hp
  have hv0 : 0 < v := by rw [hvdef]; exact Nat.mul_pos hy0 (Nat.pow_pos (by decide))
  obtain ⟨VL, hVL⟩ : ∃ VL, VL = dg 4294967296 v (k + 2 + 1) := ⟨_, rfl⟩
  obtain ⟨vl, hvl⟩ : ∃ vl, vl = VL.take (k + 2) := ⟨_, rfl⟩
  have hvl2 : vl = dg 4294967296 v (k + 2) := by rw [hvl, hVL, dg_take2]
  have hVLl : VL.length = k + 3 := by rw [hVL, dg_len]
  have hvll : vl.length = k + 2 := by rw [hvl2, dg_len]
  have hVLb : Bd 4294967296 VL := by rw [hVL]; exact dg_bd (by decide) _ _
  have hvlb : Bd 4294967296 vl := by rw [hvl2]; exact dg_bd (by decide) _ _
  have hvlv : val 4294967296 vl = v := by rw [hvl2, dg_val, Nat.mod_eq_of_lt hn2]
  have htop : ∀ h : k + 1 < VL.length, 2147483648 ≤ VL[k + 1] := by
    intro h
    have h1 := dg_get 4294967296 (k + 2 + 1) v (k + 1) (by omega)
    rw [← hVL, List.getElem?_eq_getElem h] at h1
    have h2 : VL[k + 1] = v / 4294967296 ^ (k + 1) % 4294967296 := by simpa using h1
    have h3 : v / 4294967296 ^ (k + 1) < 4294967296 := by
      rw [Nat.div_lt_iff_lt_mul (Nat.pow_pos (by decide)), Nat.mul_comm, ← Nat.pow_succ]
      exact hn2
    rw [h2, Nat.mod_eq_of_lt h3]
    exact hn1
  rw [← hVL] at hvv hp
  obtain ⟨U0, hU0⟩ : ∃ U0, U0 = dg 4294967296 (x * 2 ^ sh) (k + 2 + e + 1) := ⟨_, rfl⟩
  have hU0l : U0.length = k + 2 + e + 1 := by rw [hU0, dg_len]
  have hU0b : Bd 4294967296 U0 := by rw [hU0]; exact dg_bd (by decide) _ _
  have hxlt : x < 4294967296 ^ (k + 2 + e) := dN_lt (by omega)
  have hU0v : val 4294967296 U0 = x * 2 ^ sh := by
    rw [hU0, dg_val, Nat.mod_eq_of_lt]
    rw [Nat.pow_succ]
    exact Nat.mul_lt_mul'' hxlt (Nat.lt_of_le_of_lt (Nat.pow_le_pow_right (by decide) hsh) (by decide))
  have hU0lt : val 4294967296 U0 < v * 4294967296 ^ (e + 1) := by
    have h1 := val_lt hU0b
    rw [hU0v] at h1 ⊢
    have h2 : 4294967296 ^ (k + 1) ≤ y := by
      have := Nat.div_mul_le_self y (4294967296 ^ (k + 1))
      have h3 : 1 ≤ y / 4294967296 ^ (k + 1) := by
        rcases Nat.eq_zero_or_pos (y / 4294967296 ^ (k + 1)) with h0 | h0
        · rw [h0, Nat.zero_mod] at hg; omega
        · exact h0
      have h4 : 1 * 4294967296 ^ (k + 1) ≤ y / 4294967296 ^ (k + 1) * 4294967296 ^ (k + 1) := Nat.mul_le_mul_right _ h3
      omega
    rw [hvdef, Nat.mul_right_comm]
    refine (Nat.mul_lt_mul_right (Nat.pow_pos (by decide))).2 (Nat.lt_of_lt_of_le hxlt ?_)
    rw [show k + 2 + e = (k + 1) + (e + 1) from by omega, Nat.pow_add]
    exact Nat.mul_le_mul_right _ h2
  rw [← hU0] at hvu hp
  clear hU0 hg hgb hg0 hci hs0 hc0 hylt hxlt ht1 ht2
  (repeat (first | (with_reducible first | apply WP_seq | apply WP_region | apply wpl_nil | apply thenQ_n) | (apply wlp; ((first | apply pv_move | apply pv_assign | (apply pf_len; exact rfl)) <;> exact rfl); (first | exact fI rfl | exact fS rfl))))
  (apply wlp; (exact pv_sub rfl rfl); exact int_eq (b := ((e : Nat) : Int)) (by rw [i64_in (by omega) (by omega)]; omega))
  (apply wlp; (exact pv_add rfl rfl); exact int_eq (b := ((e + 1 : Nat) : Int)) (by rw [i64_in (by omega) (by omega)]; omega))
  (apply wls; exact sf_make eW 0 hp rfl rfl rfl rfl rfl rfl rfl (by omega) rfl; rintro _ w5 ⟨gq, rfl, hvq, hp⟩)
  have hp : Hp w [] w5 [ownL eW 93 1 (some ⟨gq, 0, none⟩) (e + 1) (List.replicate (e + 1) 0), ownL eW 93 1 (some ⟨gv, 0, none⟩) (k + 2 + 1) VL, ownL eW 93 1 (some ⟨gu, 0, none⟩) (k + 2 + e + 1) U0] := hp
  (repeat (first | (with_reducible first | apply WP_seq | apply WP_region | apply wpl_nil | apply thenQ_n) | (apply wlp; ((first | apply pv_move | apply pv_assign | (apply pf_len; exact rfl)) <;> exact rfl); (first | exact fI rfl | exact fS rfl))))
  (apply wlp; (exact pv_sub rfl rfl); exact int_eq (b := ((e : Nat) : Int)) (by rw [i64_in (by omega) (by omega)]; omega))
  (repeat (first | (with_reducible first | apply WP_block | apply wpl_nil | apply thenQ_n) | (apply wlp; apply pv_assign; exact fI rfl)))
  refine WP_loop3 [14, 15, 75, 76, 77, 78, 79, 80, 81, 82, 83, 84, 85, 86, 87, 88, 89, 90, 91, 92, 93, 94, 95, 96, 97, 98, 99, 100, 101, 102, 103, 104, 105, 106, 107, 108, 109, 110, 111, 112, 113, 114, 115, 116, 117] (fun (j : Nat) (_U _z : List Nat) F => F.put 14 (.int .i64 ((j : Int) - 1)))
    (fun j U z w' => j ≤ e + 1 ∧ U.length = k + 2 + e + 1 ∧ Bd 4294967296 U ∧ z.length = e + 1 ∧ Bd 4294967296 z ∧ z.take j = List.replicate j 0 ∧ val 4294967296 U + v * val 4294967296 z = x * 2 ^ sh ∧ val 4294967296 U < v * 4294967296 ^ j ∧ SVL (some ⟨gu, 0, none⟩) (k + 2 + e + 1) U ∧ SVL (some ⟨gq, 0, none⟩) (e + 1) z ∧ Hp w [] w' [ownL eW 93 1 (some ⟨gq, 0, none⟩) (e + 1) z, ownL eW 93 1 (some ⟨gv, 0, none⟩) (k + 2 + 1) VL, ownL eW 93 1 (some ⟨gu, 0, none⟩) (k + 2 + e + 1) U])
    (fun j _ _ => j) (e + 1) U0 (List.replicate (e + 1) 0) (put_self (Same.eq .refl) (int_eq (by omega))) ⟨Nat.le_refl _, hU0l, hU0b, by simp, zeros_bd (by decide) _, by simp, by rw [val_zeros, hU0v]; simp, hU0lt, hvu, hvq, hp⟩ ?_
  clear hp hvu hvq hU0l hU0b hU0v hU0lt
  rintro u j U z w6 ⟨hj, hUl, hUb, hzl, hzb, hz0, hsum, hUlt, hvu, hvq, hp⟩
  (repeat (first | (with_reducible first | apply WP_seq | apply WP_region | apply wpl_nil | apply thenQ_n) | (apply wlp; ((first | apply pv_move | apply pv_geq) <;> exact rfl); (first | exact fI rfl | exact fB rfl))))
  refine WP_cond_d rfl (fun h2 => ?_) (fun h2 => ?_)
  · obtain ⟨j, rfl⟩ : ∃ j', j = j' + 1 := ⟨j - 1, by omega⟩
    obtain ⟨A, m, C, rfl, hA, hml⟩ := seg_ex (U := U) (j := j) (n := k + 3) (by omega)
    subst hA
    have ej : ((A.length + 1 : Nat) : Int) - 1 = (A.length : Int) := by omega
    rw [ej]
    have hmb : Bd 4294967296 m := hUb.left.right
    have hAb : Bd 4294967296 A := hUb.left.left
    have hCb : Bd 4294967296 C := hUb.right
    obtain ⟨hC0, hmv, hUe⟩ := div_seg (by decide) hml hn2 hUlt
    have hjq : A.length < e + 1 := by omega
    have hjz : A.length < z.length := by omega
    have hz00 := zero_at hz0 hjz
    have hSV : SlAt w6 1 eW (some ⟨gv, 0, none⟩) VL := ownL_At hp 1 rfl hvv (fun _ => rfl)
    have hSU : SlAt w6 1 eW (some ⟨gu, 0, none⟩) (A ++ m ++ C) := ownL_At hp 2 rfl hvu (fun _ => rfl)
    have h77 := c77 m VL k (k + 2 + e + 1 - A.length) (k + 2 + 1) _ _ w6 (SlAt_mid hSU) hSV hmb hVLb hml hVLl (by omega) (by rw [← hvl, hvlv]; exact hmv) htop
    rw [← hvl, hvlv] at h77
    obtain ⟨M, hM⟩ : ∃ M, M = val 4294967296 m := ⟨_, rfl⟩
    obtain ⟨q, hq⟩ : ∃ q, q = M / v := ⟨_, rfl⟩
    rw [← hM] at h77 hmv hUe
    rw [← hq] at h77
    have hqb : q < 4294967296 := by rw [hq]; exact (Nat.div_lt_iff_lt_mul hv0).2 (by rw [Nat.mul_comm]; exact hmv)
    (repeat (first | (with_reducible first | apply WP_seq | apply WP_block | apply WP_region | apply thenQ_n | apply WP_skip) | (apply wlp; apply pv_move; (first | exact fI rfl | exact fS rfl))))
    (apply wlp; (exact pv_add rfl rfl); exact int_eq (b := ((A.length + (k + 2) : Nat) : Int)) (by rw [i64_in (by omega) (by omega)]; omega))
    (apply wlp; (exact pv_add rfl rfl); exact int_eq (b := ((A.length + (k + 2) + 1 : Nat) : Int)) (by rw [i64_in (by omega) (by omega)]; omega))
    (apply wlp; exact pv_sliceLH sl74.1 sl74.2 rfl rfl rfl (by omega) (by omega) (by omega); exact sl_eq (m' := k + 3) (by omega))
    (repeat (apply wlp; apply pv_move; exact fS rfl))
    (apply wls; exact st_call rfl ent77 rfl h77)
    rintro _ w7 ⟨G, rfl, hG1, hG2, hk⟩
    have hp := hp.call hk
    (repeat (first | (with_reducible first | apply WP_seq | apply wpl_nil | apply thenQ_n) | (apply wlp; apply pv_assign; exact fI rfl)))
    refine WP_draw mixed (by kernel_rfl) (fun _ => True) trivial ?_
    have hp := hp.drew
    have hSV : SlAt w7.drew 1 eW (some ⟨gv, 0, none⟩) VL := ownL_At hp 1 rfl hvv (fun _ => rfl)
    have hSv : SlAt w7.drew 1 eW (some ⟨gv, 0, none⟩) vl := by rw [hvl]; exact SlAt_take hSV _
    have hgne : gv ≠ gu := fun h => hp.dis 1 2 _ _ rfl rfl (by decide) gv rfl (by rw [h]; rfl)
    have hne : ∀ b o, (some ⟨gv, 0, none⟩ : Option Addr) = some ⟨b, o, none⟩ → b ≠ gu := by
      rintro b o h
      cases h
      exact hgne
    obtain ⟨o1, ho1, hoo1⟩ := hp.has 2 _ rfl gu rfl
    have h78 := c78 A m C vl G gu (k + 2 + e + 1) (k + 2 + e + 1 - A.length) (k + 2 + 1) _ w7.drew o1 ho1 hoo1 hvu hSv hne hmb hvlb (by omega) (by omega) (by omega)
    rw [hvll] at h78
    (repeat ((apply wdp; exact rfl); (intro w hp; intros; apply pv_move); (intros; (first | exact fI rfl | exact fS rfl))))
    (apply wdp; exact rfl; (intro w hp; exact pv_add rfl rfl); exact int_eq (b := ((A.length + (k + 2) : Nat) : Int)) (by rw [i64_in (by omega) (by omega)]; omega))
    (apply wdp; exact rfl; (intro w hp; exact pv_add rfl rfl); exact int_eq (b := ((A.length + (k + 2) + 1 : Nat) : Int)) (by rw [i64_in (by omega) (by omega)]; omega))
    (apply wdp; exact rfl; (intro w hp; exact pv_sliceLH sl74.1 sl74.2 rfl rfl rfl (by omega) (by omega) (by omega)); exact sl_eq (m' := k + 2 + 1) (by omega))
    (repeat ((apply wdp; exact rfl); (intro w hp; intros; apply pv_move); (intros; (first | exact fI rfl | exact fS rfl))))
    (apply wdp; exact rfl; (intro w hp; exact pv_sliceTo rfl rfl rfl (by omega)); exact fS rfl)
    (repeat ((apply wdp; exact rfl); (intro w hp; intros; apply pv_move); (intros; exact fI rfl)))
    (apply wds; exact rfl; exact st_call rfl ent78 rfl h78)
    rintro _ w8 ⟨zz, B, rfl, hB, hzzl, hzzb, hzzv, hk, ho⟩
    have hp := Hp.callL hp 2 rfl hk ho
    refine ⟨trivial, ?_⟩
    skip
    refine wpd_nil ?_
    have hzzlt := val_lt hzzb
    rw [hzzl, hml] at hzzlt
    rw [hvlv, ← hM] at hzzv
    have key : ∀ z2 : List Nat, z2.length = k + 3 → Bd 4294967296 z2 → val 4294967296 z2 = M % v → Bd 4294967296 (A ++ z2 ++ C) ∧ val 4294967296 (A ++ z2 ++ C) = val 4294967296 A + 4294967296 ^ A.length * (M % v) := by
      intro z2 h1 h2 h3
      refine ⟨(hAb.app h2).app hCb, ?_⟩
      rw [seg_val, hC0, h3]
      simp
    obtain ⟨hn3, hn4⟩ := div_next (A := A) (M := M) hAb hv0 rfl hq
    refine WP_cond_d rfl (fun hB1 => ?_) (fun hB0 => ?_)
    · obtain rfl : B = 1 := by omega
      rw [Nat.one_mul] at hzzv
      obtain ⟨rfl, hzf⟩ := fix1 hv0 hq hG2 hzzlt (Nat.le_of_lt (Nat.lt_of_lt_of_le hn2 (Nat.pow_le_pow_right (by decide) (by omega)))) hzzv
      (repeat (first | (with_reducible first | apply WP_seq | apply WP_region) | (apply wlp; apply pv_move; exact fI rfl)))
      (apply wlp; exact pn_sub64 (b := 1) rfl rfl (by decide); exact int_eq (b := (q : Int)) (by unfold sb64; omega))
      (repeat (first | (with_reducible first | apply wpl_nil | apply thenQ_n) | (apply wlp; apply pv_assign; exact fI rfl)))
      refine WP_draw mixed (by kernel_rfl) (fun _ => True) trivial ?_
      have hp := hp.drew
      have hSV : SlAt w8.drew 1 eW (some ⟨gv, 0, none⟩) VL := ownL_At hp 1 rfl hvv (fun _ => rfl)
      have hSv : SlAt w8.drew 1 eW (some ⟨gv, 0, none⟩) vl := by rw [hvl]; exact SlAt_take hSV _
      obtain ⟨o2, ho2, hoo2⟩ := hp.has 2 _ rfl gu rfl
      have hvu2 : SVL (some ⟨gu, 0, none⟩) (k + 2 + e + 1) (A ++ zz ++ C) := by
        unfold SVL at *
        rwa [show (A ++ zz ++ C).length = (A ++ m ++ C).length from by simp only [List.length_append]; omega]
      have h79 := c79 A zz C vl gu (k + 2 + e + 1) (k + 2 + e + 1 - A.length) (k + 2 + 1) _ w8.drew o2 ho2 hoo2 hvu2 hSv hne hzzb hvlb (by omega) (by omega)
      rw [hvll, hvlv, hzf] at h79
      (repeat ((apply wdp; exact rfl); (intro w hp; intros; apply pv_move); (intros; (first | exact fI rfl | exact fS rfl))))
      (apply wdp; exact rfl; (intro w hp; exact pv_add rfl rfl); exact int_eq (b := ((A.length + (k + 2) : Nat) : Int)) (by rw [i64_in (by omega) (by omega)]; omega))
      (apply wdp; exact rfl; (intro w hp; exact pv_add rfl rfl); exact int_eq (b := ((A.length + (k + 2) + 1 : Nat) : Int)) (by rw [i64_in (by omega) (by omega)]; omega))
      (apply wdp; exact rfl; (intro w hp; exact pv_sliceLH sl74.1 sl74.2 rfl rfl rfl (by omega) (by omega) (by omega)); exact sl_eq (m' := k + 2 + 1) (by omega))
      (repeat ((apply wdp; exact rfl); (intro w hp; intros; apply pv_move); (intros; (first | exact fI rfl | exact fS rfl))))
      (apply wdp; exact rfl; (intro w hp; exact pv_sliceTo rfl rfl rfl (by omega)); exact fS rfl)
      skip
      (apply wds; exact rfl; exact st_call rfl ent79 rfl h79)
      rintro _ w9 ⟨z2, hz2l, hz2b, hz2v, hk, ho⟩
      have hp := Hp.callL hp 2 rfl hk ho
      refine ⟨trivial, ?_⟩
      skip
      refine wpd_nil ?_
      obtain ⟨hbU2, hU2⟩ := key z2 (by omega) hz2b hz2v
      (repeat (first | (with_reducible first | apply WP_region | apply thenQ_n) | (apply wlp; ((first | apply pv_move | (apply pf_index; exact rfl) | exact pn_32of rfl rfl rfl) <;> (first | exact rfl | assumption)); (first | exact fI rfl | exact fP rfl | exact fS rfl))))
      (apply wls0; exact st_setL eW z A.length (q % 4294967296) hp 0 rfl hvq hjz rfl rfl (fun _ => rfl) rfl rfl (sizeTy_ok rfl); rintro _ w10 ⟨rfl, hp⟩)
      rw [Nat.mod_eq_of_lt hqb] at hp
      (repeat (first | (with_reducible first | apply WP_region | apply wpl_nil | apply thenQ_n | apply inBlk_n) | (apply wlp; apply pv_move; exact fI rfl)))
      (apply wlp; exact pv_sub rfl rfl; exact int_eq (i64_in (by omega) (by omega)))
      (repeat (first | (with_reducible first | apply wpl_nil | apply thenQ_n) | (apply wlp; apply pv_assign; exact fI rfl)))
      refine ⟨A.length, A ++ z2 ++ C, z.set A.length q, put_self (Same.eq (by repeat (first | exact Same.hav | exact Same.refl | refine Same.put rfl ?_ | refine Same.havs rfl ?_))) rfl, ⟨by omega, ?_, hbU2, by rw [List.length_set, hzl], hzb.set hqb, take_zero_set hz0, ?_, ?_, ?_, hvq.set _ _, hp⟩, by omega⟩
      · simp only [List.length_append] at hUl ⊢
        omega
      · rw [val_set0 hjz hz00, hU2, Nat.mul_add]
        omega
      · rw [hU2]
        exact hn4
      · unfold SVL at *
        rwa [show (A ++ z2 ++ C).length = (A ++ m ++ C).length from by simp only [List.length_append]; omega]
    · obtain rfl : B = 0 := by omega
      rw [Nat.zero_mul, Nat.add_zero] at hzzv
      obtain ⟨rfl, hzf⟩ := fix0 hv0 hq hG1 hzzv
      have hz2 : ∃ z2, z2 = zz := ⟨_, rfl⟩
      obtain ⟨z2, hz2e⟩ := hz2
      rw [← hz2e] at hp hzf hzzl hzzb
      obtain ⟨hbU2, hU2⟩ := key z2 (by omega) hzzb hzf
      (repeat (first | (with_reducible first | apply WP_region | apply thenQ_n | apply WP_skip) | (apply wlp; ((first | apply pv_move | (apply pf_index; exact rfl) | exact pn_32of rfl rfl rfl) <;> (first | exact rfl | assumption)); (first | exact fI rfl | exact fP rfl | exact fS rfl))))
      (apply wls0; exact st_setL eW z A.length (G % 4294967296) hp 0 rfl hvq hjz rfl rfl (fun _ => rfl) rfl rfl (sizeTy_ok rfl); rintro _ w10 ⟨rfl, hp⟩)
      rw [Nat.mod_eq_of_lt hqb] at hp
      (repeat (first | (with_reducible first | apply WP_region | apply wpl_nil | apply thenQ_n | apply inBlk_n) | (apply wlp; apply pv_move; exact fI rfl)))
      (apply wlp; exact pv_sub rfl rfl; exact int_eq (i64_in (by omega) (by omega)))
      (repeat (first | (with_reducible first | apply wpl_nil | apply thenQ_n) | (apply wlp; apply pv_assign; exact fI rfl)))
      refine ⟨A.length, A ++ z2 ++ C, z.set A.length G, put_self (Same.eq (by repeat (first | exact Same.hav | exact Same.refl | refine Same.put rfl ?_ | refine Same.havs rfl ?_))) rfl, ⟨by omega, ?_, hbU2, by rw [List.length_set, hzl], hzb.set hqb, take_zero_set hz0, ?_, ?_, ?_, hvq.set _ _, hp⟩, by omega⟩
      · simp only [List.length_append] at hUl ⊢
        omega
      · rw [val_set0 hjz hz00, hU2, Nat.mul_add]
        omega
      · rw [hU2]
        exact hn4
      · unfold SVL at *
        rwa [show (A ++ z2 ++ C).length = (A ++ m ++ C).length from by simp only [List.length_append]; omega]
  · obtain rfl : j = 0 := by omega
    rw [Nat.pow_zero, Nat.mul_one] at hUlt
    rw [hvdef] at hsum
    obtain ⟨hQ, hR⟩ := div_fin hy0 hsum (by rw [← hvdef]; exact hUlt)
    have hUt := val_take_all (n := k + 2) (by decide) (by omega) (Nat.lt_trans hUlt hn2)
    obtain ⟨V, hV⟩ : ∃ V, V = U.take (k + 2) := ⟨_, rfl⟩
    have hVl : V.length = k + 2 := by rw [hV, List.length_take, Nat.min_eq_left (by omega)]
    have hVb : Bd 4294967296 V := by rw [hV]; exact hUb.take _
    rw [← hV] at hUt
    rw [← hUt] at hR
    have htz : trimL z = dN (x / y) := by rw [trim_dN hzb, hQ]
    (repeat (first | (with_reducible first | apply WP_seq | apply thenQ_n | apply thenQ_exit | apply WP_exit) | ((with_reducible apply inBlk_same); exact rfl)))
    refine WP_draw mixed (by kernel_rfl) (fun w' => Hp _ _ w' _) hp.drew ?_
    have hp := hp.drew
    have hSq : SlAt w6.drew 1 eW (some ⟨gq, 0, none⟩) z := ownL_At hp 0 rfl hvq (fun _ => rfl)
    have h66 := c66 z _ (e + 1) _ (by omega) (by unfold maxLen; omega) hSq
    rw [hzl, htz] at h66
    (repeat ((apply wdp; exact rfl); (intro w hp; intros; apply pv_move); (intros; exact fS rfl)))
    (apply wds; exact rfl; exact st_call rfl ent66 rfl h66; rintro _ w7 ⟨rfl, hk⟩; have hp := hp.call hk; refine ⟨hp, ?_⟩)
    have hd1 : DA w7 (x / y) (some ⟨gq, 0, none⟩) (e + 1) := ⟨by rw [← htz, ← hzl]; exact (trimL_pre z).length_le, by unfold maxLen; omega, by rw [← htz]; exact (hSq.keep0 hk).pre (trimL_pre z)⟩
    have hSU : SlAt w7 1 eW (some ⟨gu, 0, none⟩) V := by rw [hV]; exact SlAt_take (ownL_At hp 2 rfl hvu (fun _ => rfl)) _
    have h80 := c80 V sh _ (k + 2 + e + 1) _ hSU hVb (by omega) hsh
    rw [hVl, hR] at h80
    (repeat ((apply wdp; exact rfl); (intro w hp; intros; apply pv_move); (intros; (first | exact fI rfl | exact fS rfl))))
    (apply wdp; exact rfl; (intro w hp; exact pv_sliceTo rfl rfl rfl (by omega)); exact fS rfl)
    (repeat ((apply wdp; exact rfl); (intro w hp; intros; apply pv_move); (intros; exact fI rfl)))
    (apply wds; exact rfl; exact st_call rfl ent80 rfl h80; rintro _ w8 ⟨gr, rfl, hvr, hpr⟩; refine ⟨hp.call hpr.keeps, ?_⟩)
    have h66d := c66d hpr hvr (by unfold maxLen; omega) (dg_bd (by decide) _ _) (x := x % y) (by rw [dg_val, Nat.mod_eq_of_lt]; exact Nat.lt_trans (Nat.mod_lt _ hy0) (dN_lt (by omega)))
    rw [dg_len] at h66d
    (apply wds; exact rfl; exact st_call rfl ent66 rfl h66d; rintro _ w9 ⟨s', c', rfl, hd2, hk2⟩; have hp := hp.call hk2; have hd1 := hd1.keep hk2; refine ⟨hp, ?_⟩)
    (repeat ((apply wdp; exact rfl); (intro w hp; intros; apply pv_assign); (intros; exact fS rfl)))
    refine wpd_nil ?_
    (repeat (with_reducible first | apply thenQ_n | apply WP_ret))
    exact ret_tmp2 rfl rfl rfl ⟨_, rfl, _, _, _, _, rfl, hd1, hd2, hp.keeps⟩

theorem c54 (x y : Nat) (s s2 : Option Addr) (c c2 : Nat) (w : World) (hx : DA w x s c) (hy : DA w y s2 c2) (hy0 : 0 < y) (hlx : (dN x).length ≤ 100000) :
    Ret Tryd.prog 54 [.slice s (dN x).length c, .slice s2 (dN y).length c2] w (fun v w' => ∃ s' c' s3 c3, v = .tuple #[.slice s' (dN (x / y)).length c', .slice s3 (dN (x % y)).length c3] ∧ DA w' (x / y) s' c' ∧ DA w' (x % y) s3 c3 ∧ Keeps [] w w') := by
  by_cases h1 : x < y
  · exact c54a x y s s2 c c2 w hx hy h1
  by_cases h2 : (dN x).length ≤ 2
  · exact c54b x y s s2 c c2 w hx hy hy0 (by omega) h2
  have hly0 : (dN y).length ≠ 0 := by
    intro h
    have := dN_nil.1 (List.eq_nil_of_length_eq_zero h)
    omega
  by_cases h3 : (dN y).length = 1
  · exact c54c x y s s2 c c2 w hx hy (by omega) (by omega) hlx h3
  have hle : (dN y).length ≤ (dN x).length := by
    rcases Nat.lt_or_ge (dN x).length (dN y).length with h | h
    · exact absurd (digs_len_lt (b := 4294967296) (by decide) (show (digs 4294967296 x).length < (digs 4294967296 y).length from h)) h1
    · exact h
  obtain ⟨k, hk⟩ : ∃ k, (dN y).length = k + 2 := ⟨(dN y).length - 2, by omega⟩
  obtain ⟨e, he⟩ : ∃ e, (dN x).length = k + 2 + e := ⟨(dN x).length - (k + 2), by omega⟩
  have := c54d x y k e s s2 c c2 w hx hy (by omega) he hk (by omega) (by omega)
  rwa [← he, ← hk] at this
end Go.Proofs.YteklkjnhefnimaaDoor
