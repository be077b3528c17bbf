/- Merged texts of ours: Ge Ha Hb Hc Ia Ib Zc; conditions are the hypotheses of each law. -/
import Derived.Test.YteklkjnhefnimaaDoorQ2
/- Printed by gen_ge.py. sortesref01: Add, Mul; conditions: the numbers are short. -/
namespace Go.Proofs.YteklkjnhefnimaaDoor
open Go.Eng Go.Dig

theorem Fit.d24s {x : Nat} (h : Fit x) : (Go.Proofs.YteklkjnhefnimaaDoor.d24 x).length ≤ 4000 := by
  obtain ⟨k, h1, h2⟩ := h
  exact Nat.le_trans (d24_len (Nat.lt_of_lt_of_le h2 (Nat.pow_le_pow_left (by decide) k))) h1
theorem small7 {x b : Nat} (h : (digs 256 x).length ≤ b) (hb : b ≤ 7) : x < 72057594037927936 := by
  have h1 : x < 256 ^ 7 := lt_of_len (by decide) (Nat.le_trans h hb)
  rwa [show (256 : Nat) ^ 7 = 72057594037927936 from by decide] at h1
theorem small4 {x : Nat} (h : (digs 256 x).length ≤ 4) : x < 4294967296 := by
  have h1 : x < 256 ^ 4 := lt_of_len (by decide) h
  rwa [show (256 : Nat) ^ 4 = 4294967296 from by decide] at h1
theorem small3 {x : Nat} (h : (digs 256 x).length ≤ 3) : x < 16777216 := by
  have h1 : x < 256 ^ 3 := lt_of_len (by decide) h
  rwa [show (256 : Nat) ^ 3 = 16777216 from by decide] at h1
/-- no carry behind all digits -/
theorem carry_end {b x y M cy V : Nat} (hb : 2 ≤ b) (hx : x < b ^ M) (hy : y < b ^ M) (h : V + cy * b ^ (M + 1) = x % b ^ (M + 1) + y % b ^ (M + 1)) : cy = 0 := by
  have h1 := Nat.mod_le x (b ^ (M + 1))
  have h2 := Nat.mod_le y (b ^ (M + 1))
  rcases Nat.eq_zero_or_pos cy with h0 | h0
  · exact h0
  · have h3 : 1 * b ^ (M + 1) ≤ cy * b ^ (M + 1) := Nat.mul_le_mul_right _ h0
    have h4 : b ^ M * 2 ≤ b ^ (M + 1) := by rw [Nat.pow_succ]; exact Nat.mul_le_mul_left _ hb
    omega

attribute [local irreducible] PV StepF wpl wpd WP Ret
attribute [local irreducible] Fit RB

theorem c41 (x y : Nat) (w : World) (hx : Fit x) (hy : Fit y) : Ret Tryd.prog 41 [.string (ofN x), .string (ofN y)] w (fun v w' => v = .string (ofN (x + y)) ∧ Keeps [] w w') := by
  have hlx := hx.d24s
  have hly := hy.d24s
  refine Ret.of_WP Tryd.func41 rfl Tryd.ntmps41 rfl ?_
  have hp := Hp.start (M := []) (w := w)
  (repeat (first | (with_reducible first | apply WP_seq | apply WP_region | apply wpl_nil | apply thenQ_n) | (apply wlp; (first | apply pv_move | apply pv_assign); exact fT rfl)))
  (apply wls; exact st_call rfl ent68 rfl (c68 x 7 _ (by decide) hx); rintro _ w1 ⟨⟨q1, hq1, rfl⟩, hk⟩; have hp := hp.call hk)
  (repeat (first | (with_reducible first | apply WP_seq | apply WP_region | apply wpl_nil | apply thenQ_n) | (apply wlp; ((first | apply pv_move | apply pv_assign | apply pv_extract) <;> exact rfl); (first | exact fI rfl | exact fB rfl | exact fT rfl | exact fU rfl))))
  (apply wls; exact st_call rfl ent68 rfl (c68 y 7 _ (by decide) hy); rintro _ w2 ⟨⟨q2, hq2, rfl⟩, hk⟩; have hp := hp.call hk)
  (repeat (first | (with_reducible first | apply WP_seq | apply WP_region | apply wpl_nil | apply thenQ_n) | ((first | apply wlp | (apply wlg; exact rfl; exact rfl)); (intros; ((first | apply pv_move | apply pv_assign | exact pv_and rfl rfl rfl | apply pv_extract) <;> exact rfl)); (intros; (first | exact fI rfl | exact fB rfl | exact fU rfl)))))
  refine WP_cond rfl (fun h => ?_) (fun _ => ?_)
  · have hq : q1 = true ∧ q2 = true := by cases q1 <;> cases q2 <;> simp at h ⊢
    obtain ⟨rfl, rfl⟩ := hq
    have h1 := small7 (of_decide_eq_true hq1.symm) (by decide)
    have h2 := small7 (of_decide_eq_true hq2.symm) (by decide)
    (repeat (first | (with_reducible first | apply WP_seq | apply WP_region) | (apply wlp; apply pv_move; exact fI rfl)))
    (apply wlp; exact pv_add rfl rfl; exact int_eq (b := ((x + y : Nat) : Int)) (by rw [if_pos rfl, if_pos rfl, i64_in (by omega) (by omega)]; omega))
    (apply wls; exact st_call rfl ent40 rfl (c40 ((x + y : Nat) : Int) _ (by omega)); rintro _ w3 ⟨rfl, hk⟩; have hp := hp.call hk)
    rw [Int.toNat_natCast]
    (repeat (first | (with_reducible first | apply wpl_nil | apply thenQ_n | apply thenQ_ret | apply WP_ret) | (apply wlp; apply pv_assign; exact fT rfl)))
    exact ret_tmp rfl rfl ⟨_, rfl, rfl, hp.keeps⟩
  · (repeat (first | (with_reducible first | apply WP_seq | apply WP_region | apply thenQ_n | apply WP_skip) | (apply wlp; apply pv_move; exact fT rfl)))
    (apply wls; exact st_call rfl ent69 rfl (c69 x _ hx); rintro _ w3 ⟨s, c, rfl, hv1, hpo⟩)
    have hsx : SlAt w3 1 eD s (d24 x) := ownL_At hpo 0 rfl hv1 (fun _ => rfl)
    have hp := hp.call hpo.keeps
    clear hpo
    (repeat (first | (with_reducible first | apply WP_seq | apply WP_region | apply wpl_nil | apply thenQ_n) | (apply wlp; (first | apply pv_move | apply pv_assign); (first | exact fS rfl | exact fT rfl))))
    (apply wls; exact st_call rfl ent69 rfl (c69 y _ hy); rintro _ w4 ⟨s2, c2, rfl, hv2, hpo⟩)
    have hsy : SlAt w4 1 eD s2 (d24 y) := ownL_At hpo 0 rfl hv2 (fun _ => rfl)
    have hsx := hsx.keep0 hpo.keeps
    have hk0 := hp.keeps.trans hpo.keeps (by simp)
    clear hpo hp
    have hp := (Hp.start (M := []) (w := w4)).nilL eD 3 1
    obtain ⟨M, hM⟩ : ∃ M, M = max (d24 x).length (d24 y).length := ⟨_, rfl⟩
    (repeat (first | (with_reducible first | apply WP_seq | apply WP_block | apply WP_region | apply wpl_nil | apply thenQ_n) | (apply wlp; apply pv_assign; (first | exact fI rfl | exact fS rfl))))
    refine WP_loop5 [11, 12, 13, 14, 37, 38, 39, 40, 41, 42, 43, 44, 45, 46, 47, 48, 49, 50, 51, 52, 53, 54, 55, 56, 57, 58, 59, 60, 61, 62, 63, 64, 65, 66, 67, 68, 69, 70, 71, 72, 73, 74, 75, 76, 77, 78, 79, 80] (fun (k cy : Nat) (z : List Nat) (st : Option Addr) (ct : Nat) F => ((F.put 13 (.int .i64 (k : Int))).put 12 (.int .i64 (cy : Int))).put 11 (.slice st z.length ct))
      (fun k cy z st ct w' => k ≤ M + 1 ∧ z.length = k ∧ Bd 16777216 z ∧ cy < 2 ∧ val 16777216 z + cy * 16777216 ^ k = x % 16777216 ^ k + y % 16777216 ^ k ∧ SVL st ct z ∧ Hp w4 [] w' [ownL eD 3 1 st ct z])
      (fun k _ _ _ _ => M + 2 - k) 0 0 [] none 0 (put_self (put_self (put_self (Same.eq .refl) rfl) rfl) rfl) ⟨Nat.zero_le _, rfl, .nil, by decide, by simp [val, Nat.mod_one], SVL.nil, hp⟩ ?_
    clear hp
    rintro u k cy z st ct w5 ⟨hk, hzl, hzb, hcy, hval, hv, hp⟩
    have hxM : x < 16777216 ^ M := d24_lt (by omega)
    have hyM : y < 16777216 ^ M := d24_lt (by omega)
    (repeat (first | (with_reducible first | apply WP_seq | apply WP_region | apply wpl_nil | apply thenQ_n) | ((first | apply wlp | (apply wlg; exact rfl; exact rfl)); (intros; ((first | apply pv_move | (apply pf_len; exact rfl) | exact pv_or rfl rfl rfl | apply pv_lss | apply pv_gtr) <;> (first | exact rfl | exact ev_sel rfl (by assumption)))); (intros; (first | exact fI rfl | exact fB rfl | exact fS rfl)))))
    refine WP_cond rfl (fun h => ?_) (fun h => ?_)
    · have hkM : k ≤ M := by
        rcases Nat.lt_or_ge k (M + 1) with h1 | h1
        · omega
        · have e1 : k = M + 1 := by omega
          rw [e1] at hval
          have := carry_end (by decide) hxM hyM hval
          simp at h
          omega
      clear h
      obtain ⟨dx, hgx, hbx⟩ : ∃ dx, dx = x / 16777216 ^ k % 16777216 ∧ dx < 16777216 := ⟨_, rfl, Nat.mod_lt _ (by decide)⟩
      obtain ⟨dy, hgy, hby⟩ : ∃ dy, dy = y / 16777216 ^ k % 16777216 ∧ dy < 16777216 := ⟨_, rfl, Nat.mod_lt _ (by decide)⟩
      (repeat (first | (with_reducible first | apply WP_seq | apply WP_block | apply WP_region | apply wpl_nil | apply thenQ_n | apply WP_skip) | (apply wlp; ((first | apply pv_move | apply pv_assign | (apply pf_len; exact rfl) | apply pv_lss) <;> exact rfl); (first | exact fI rfl | exact fB rfl | exact fS rfl))))
      refine WP_cond_d rfl (fun h3 => ?_) (fun h3 => ?_)
      · have hltx : k < (d24 x).length := by omega
        obtain ⟨b0, o0, hs0, hc0⟩ := hsx.base (by omega)
        have hci := hc0 k _ (List.getElem?_eq_getElem hltx) 0 _ rfl
        rw [d24_get hltx, ← hgx] at hci
        have hci : w4.cell? ⟨b0, o0 + k * 1, none⟩ = some (.int .i64 (dx : Int)) := hci
        (repeat (first | with_reducible apply WP_region | (apply wlp; ((first | apply pv_move | (apply pf_load; exact rfl) | (apply pf_index; exact rfl)) <;> (first | exact rfl | assumption | exact hp.old0 (by assumption))); (first | exact fI rfl | exact fP rfl | exact fS rfl))))
        (apply wlp; (exact pv_add rfl rfl); exact int_eq (b := ((cy + dx : Nat) : Int)) (by rw [i64_in (by omega) (by omega)]; omega))
        (repeat (first | (with_reducible first | apply WP_seq | apply WP_region | apply wpl_nil | apply thenQ_n) | (apply wlp; ((first | apply pv_move | apply pv_assign | (apply pf_len; exact rfl) | apply pv_lss) <;> exact rfl); (first | exact fI rfl | exact fB rfl | exact fS rfl))))
        refine WP_cond_d rfl (fun h4 => ?_) (fun h4 => ?_)
        · have hlty : k < (d24 y).length := by omega
          obtain ⟨b1, o1, hs1, hc1⟩ := hsy.base (by omega)
          have hcj := hc1 k _ (List.getElem?_eq_getElem hlty) 0 _ rfl
          rw [d24_get hlty, ← hgy] at hcj
          have hcj : w4.cell? ⟨b1, o1 + k * 1, none⟩ = some (.int .i64 (dy : Int)) := hcj
          (repeat (first | with_reducible apply WP_region | (apply wlp; ((first | apply pv_move | (apply pf_load; exact rfl) | (apply pf_index; exact rfl)) <;> (first | exact rfl | assumption | exact hp.old0 (by assumption))); (first | exact fI rfl | exact fP rfl | exact fS rfl))))
          (apply wlp; (exact pv_add rfl rfl); exact int_eq (b := ((cy + dx + dy : Nat) : Int)) (by rw [i64_in (by omega) (by omega)]; omega))
          obtain ⟨S, hS⟩ : ∃ S, S = cy + dx + dy := ⟨_, rfl⟩
          rw [← hS]
          (repeat (first | (with_reducible first | apply WP_seq | apply WP_region | apply wpl_nil | apply thenQ_n) | (apply wlp; (first | apply pv_move | apply pv_assign); (first | exact fI rfl | exact fS rfl))))
          (apply wlp; exact pn_remI (b := 16777216) rfl rfl (by decide); exact fI rfl)
          (apply wls; exact sf_slice hp rfl rfl rfl rfl rfl rfl rfl; rintro _ w6 ⟨nb, rfl, hp⟩)
          (apply wls; exact sf_app1 eD z (S % 16777216) hp 1 0 rfl rfl rfl rfl rfl rfl (fun _ => rfl) rfl rfl rfl hv rfl rfl (by omega); rintro _ w7 ⟨s', c', rfl, hv', hp⟩)
          have hp := hp.tail
          (repeat (first | (with_reducible first | apply WP_region | apply wpl_nil | apply thenQ_n) | (apply wlp; (first | apply pv_move | apply pv_assign); (first | exact fI rfl | exact fS rfl))))
          (apply wlp; exact pn_quoI (b := 16777216) rfl rfl (by decide) (by omega); exact fI rfl)
          (repeat (first | (with_reducible first | apply WP_region | apply wpl_nil | apply thenQ_n | apply inBlk_n) | (apply wlp; (first | apply pv_move | apply pv_assign); exact fI rfl)))
          (apply wlp; exact pv_add rfl rfl; exact int_eq (i64_in (by omega) (by omega)))
          (repeat (first | (with_reducible first | apply wpl_nil | apply thenQ_n) | (apply wlp; apply pv_assign; exact fI rfl)))
          refine ⟨k + 1, S / 16777216, z ++ [S % 16777216], s', c', put_self (put_self (put_self (Same.eq (by repeat (first | exact Same.hav | exact Same.refl | refine Same.put rfl ?_ | refine Same.havs rfl ?_))) rfl) rfl) rfl, ⟨by omega, by simp [hzl], hzb.app (.cons (by omega) .nil), by omega, ?_, hv', hp⟩, by omega⟩
          rw [val_snoc, hzl]
          refine add_step hval ?_
          rw [← hgx, ← hgy]
          omega
        · have hdy : dy = 0 := by rw [hgy]; exact d24_beyond (by omega)
          obtain ⟨S, hS⟩ : ∃ S, S = cy + dx := ⟨_, rfl⟩
          rw [← hS]
          (repeat (first | (with_reducible first | apply WP_seq | apply WP_region | apply thenQ_n | apply WP_skip) | (apply wlp; apply pv_move; (first | exact fI rfl | exact fS rfl))))
          (apply wlp; exact pn_remI (b := 16777216) rfl rfl (by decide); exact fI rfl)
          (apply wls; exact sf_slice hp rfl rfl rfl rfl rfl rfl rfl; rintro _ w6 ⟨nb, rfl, hp⟩)
          (apply wls; exact sf_app1 eD z (S % 16777216) hp 1 0 rfl rfl rfl rfl rfl rfl (fun _ => rfl) rfl rfl rfl hv rfl rfl (by omega); rintro _ w7 ⟨s', c', rfl, hv', hp⟩)
          have hp := hp.tail
          (repeat (first | (with_reducible first | apply WP_region | apply wpl_nil | apply thenQ_n) | (apply wlp; (first | apply pv_move | apply pv_assign); (first | exact fI rfl | exact fS rfl))))
          (apply wlp; exact pn_quoI (b := 16777216) rfl rfl (by decide) (by omega); exact fI rfl)
          (repeat (first | (with_reducible first | apply WP_region | apply wpl_nil | apply thenQ_n | apply inBlk_n) | (apply wlp; (first | apply pv_move | apply pv_assign); exact fI rfl)))
          (apply wlp; exact pv_add rfl rfl; exact int_eq (i64_in (by omega) (by omega)))
          (repeat (first | (with_reducible first | apply wpl_nil | apply thenQ_n) | (apply wlp; apply pv_assign; exact fI rfl)))
          refine ⟨k + 1, S / 16777216, z ++ [S % 16777216], s', c', put_self (put_self (put_self (Same.eq (by repeat (first | exact Same.hav | exact Same.refl | refine Same.put rfl ?_ | refine Same.havs rfl ?_))) rfl) rfl) rfl, ⟨by omega, by simp [hzl], hzb.app (.cons (by omega) .nil), by omega, ?_, hv', hp⟩, by omega⟩
          rw [val_snoc, hzl]
          refine add_step hval ?_
          rw [← hgx, ← hgy]
          omega
      · have hdx : dx = 0 := by rw [hgx]; exact d24_beyond (by omega)
        (repeat (first | (with_reducible first | apply WP_seq | apply WP_region | apply wpl_nil | apply thenQ_n | apply WP_skip) | (apply wlp; ((first | apply pv_move | (apply pf_len; exact rfl) | apply pv_lss) <;> exact rfl); (first | exact fI rfl | exact fB rfl | exact fS rfl))))
        refine WP_cond_d rfl (fun h4 => ?_) (fun h4 => ?_)
        · have hlty : k < (d24 y).length := by omega
          obtain ⟨b1, o1, hs1, hc1⟩ := hsy.base (by omega)
          have hcj := hc1 k _ (List.getElem?_eq_getElem hlty) 0 _ rfl
          rw [d24_get hlty, ← hgy] at hcj
          have hcj : w4.cell? ⟨b1, o1 + k * 1, none⟩ = some (.int .i64 (dy : Int)) := hcj
          (repeat (first | with_reducible apply WP_region | (apply wlp; ((first | apply pv_move | (apply pf_load; exact rfl) | (apply pf_index; exact rfl)) <;> (first | exact rfl | assumption | exact hp.old0 (by assumption))); (first | exact fI rfl | exact fP rfl | exact fS rfl))))
          (apply wlp; (exact pv_add rfl rfl); exact int_eq (b := ((cy + dy : Nat) : Int)) (by rw [i64_in (by omega) (by omega)]; omega))
          obtain ⟨S, hS⟩ : ∃ S, S = cy + dy := ⟨_, rfl⟩
          rw [← hS]
          (repeat (first | (with_reducible first | apply WP_seq | apply WP_region | apply wpl_nil | apply thenQ_n) | (apply wlp; (first | apply pv_move | apply pv_assign); (first | exact fI rfl | exact fS rfl))))
          (apply wlp; exact pn_remI (b := 16777216) rfl rfl (by decide); exact fI rfl)
          (apply wls; exact sf_slice hp rfl rfl rfl rfl rfl rfl rfl; rintro _ w6 ⟨nb, rfl, hp⟩)
          (apply wls; exact sf_app1 eD z (S % 16777216) hp 1 0 rfl rfl rfl rfl rfl rfl (fun _ => rfl) rfl rfl rfl hv rfl rfl (by omega); rintro _ w7 ⟨s', c', rfl, hv', hp⟩)
          have hp := hp.tail
          (repeat (first | (with_reducible first | apply WP_region | apply wpl_nil | apply thenQ_n) | (apply wlp; (first | apply pv_move | apply pv_assign); (first | exact fI rfl | exact fS rfl))))
          (apply wlp; exact pn_quoI (b := 16777216) rfl rfl (by decide) (by omega); exact fI rfl)
          (repeat (first | (with_reducible first | apply WP_region | apply wpl_nil | apply thenQ_n | apply inBlk_n) | (apply wlp; (first | apply pv_move | apply pv_assign); exact fI rfl)))
          (apply wlp; exact pv_add rfl rfl; exact int_eq (i64_in (by omega) (by omega)))
          (repeat (first | (with_reducible first | apply wpl_nil | apply thenQ_n) | (apply wlp; apply pv_assign; exact fI rfl)))
          refine ⟨k + 1, S / 16777216, z ++ [S % 16777216], s', c', put_self (put_self (put_self (Same.eq (by repeat (first | exact Same.hav | exact Same.refl | refine Same.put rfl ?_ | refine Same.havs rfl ?_))) rfl) rfl) rfl, ⟨by omega, by simp [hzl], hzb.app (.cons (by omega) .nil), by omega, ?_, hv', hp⟩, by omega⟩
          rw [val_snoc, hzl]
          refine add_step hval ?_
          rw [← hgx, ← hgy]
          omega
        · have hdy : dy = 0 := by rw [hgy]; exact d24_beyond (by omega)
          obtain ⟨S, hS⟩ : ∃ S, S = cy := ⟨_, rfl⟩
          rw [← hS]
          (repeat (first | (with_reducible first | apply WP_seq | apply WP_region | apply thenQ_n | apply WP_skip) | (apply wlp; apply pv_move; (first | exact fI rfl | exact fS rfl))))
          (apply wlp; exact pn_remI (b := 16777216) rfl rfl (by decide); exact fI rfl)
          (apply wls; exact sf_slice hp rfl rfl rfl rfl rfl rfl rfl; rintro _ w6 ⟨nb, rfl, hp⟩)
          (apply wls; exact sf_app1 eD z (S % 16777216) hp 1 0 rfl rfl rfl rfl rfl rfl (fun _ => rfl) rfl rfl rfl hv rfl rfl (by omega); rintro _ w7 ⟨s', c', rfl, hv', hp⟩)
          have hp := hp.tail
          (repeat (first | (with_reducible first | apply WP_region | apply wpl_nil | apply thenQ_n) | (apply wlp; (first | apply pv_move | apply pv_assign); (first | exact fI rfl | exact fS rfl))))
          (apply wlp; exact pn_quoI (b := 16777216) rfl rfl (by decide) (by omega); exact fI rfl)
          (repeat (first | (with_reducible first | apply WP_region | apply wpl_nil | apply thenQ_n | apply inBlk_n) | (apply wlp; (first | apply pv_move | apply pv_assign); exact fI rfl)))
          (apply wlp; exact pv_add rfl rfl; exact int_eq (i64_in (by omega) (by omega)))
          (repeat (first | (with_reducible first | apply wpl_nil | apply thenQ_n) | (apply wlp; apply pv_assign; exact fI rfl)))
          refine ⟨k + 1, S / 16777216, z ++ [S % 16777216], s', c', put_self (put_self (put_self (Same.eq (by repeat (first | exact Same.hav | exact Same.refl | refine Same.put rfl ?_ | refine Same.havs rfl ?_))) rfl) rfl) rfl, ⟨by omega, by simp [hzl], hzb.app (.cons (by omega) .nil), by omega, ?_, hv', hp⟩, by omega⟩
          rw [val_snoc, hzl]
          refine add_step hval ?_
          rw [← hgx, ← hgy]
          omega
    · have hend : (d24 x).length ≤ k ∧ (d24 y).length ≤ k ∧ cy = 0 := by simp at h; omega
      obtain ⟨h1, h2, rfl⟩ := hend
      have hV : val 16777216 z = x + y := by
        rw [Nat.zero_mul, Nat.add_zero, Nat.mod_eq_of_lt (d24_lt h1), Nat.mod_eq_of_lt (d24_lt h2)] at hval
        exact hval
      have h70 := c70 z st ct w5 (ownL_At hp 0 rfl hv (fun _ => rfl)) hzb (by omega)
      rw [hV] at h70
      (repeat (first | (with_reducible first | apply WP_seq | apply WP_region | apply thenQ_n | apply thenQ_exit | apply WP_exit) | ((with_reducible apply inBlk_same); exact rfl) | (apply wlp; apply pv_move; exact fS rfl)))
      (apply wls; exact st_call rfl ent70 rfl h70; rintro _ w6 ⟨rfl, hk2⟩; have hp := hp.call hk2)
      (repeat (first | (with_reducible first | apply wpl_nil | apply thenQ_n | apply WP_ret) | (apply wlp; apply pv_assign; exact fT rfl)))
      exact ret_tmp rfl rfl ⟨_, rfl, rfl, hk0.trans hp.keeps (by simp)⟩
theorem c43 (x y : Nat) (w : World) (hx : Fit x) (hy : Fit y) : Ret Tryd.prog 43 [.string (ofN x), .string (ofN y)] w (fun v w' => v = .string (ofN (x * y)) ∧ Keeps [] w w') := by
  have hlx := hx.d24s
  have hly := hy.d24s
  refine Ret.of_WP Tryd.func43 rfl Tryd.ntmps43 rfl ?_
  have hp := Hp.start (M := []) (w := w)
  (repeat (first | (with_reducible first | apply WP_seq | apply WP_region | apply wpl_nil | apply thenQ_n) | (apply wlp; (first | apply pv_move | apply pv_assign); exact fT rfl)))
  (apply wls; exact st_call rfl ent68 rfl (c68 x 3 _ (by decide) hx); rintro _ w1 ⟨⟨q1, hq1, rfl⟩, hk⟩; have hp := hp.call hk)
  (repeat (first | (with_reducible first | apply WP_seq | apply WP_region | apply wpl_nil | apply thenQ_n) | (apply wlp; ((first | apply pv_move | apply pv_assign | apply pv_extract) <;> exact rfl); (first | exact fI rfl | exact fB rfl | exact fT rfl | exact fU rfl))))
  (apply wls; exact st_call rfl ent68 rfl (c68 y 4 _ (by decide) hy); rintro _ w2 ⟨⟨q2, hq2, rfl⟩, hk⟩; have hp := hp.call hk)
  (repeat (first | (with_reducible first | apply WP_seq | apply WP_region | apply wpl_nil | apply thenQ_n) | ((first | apply wlp | (apply wlg; exact rfl; exact rfl)); (intros; ((first | apply pv_move | apply pv_assign | exact pv_and rfl rfl rfl | apply pv_extract) <;> exact rfl)); (intros; (first | exact fI rfl | exact fB rfl | exact fU rfl)))))
  refine WP_cond rfl (fun h => ?_) (fun _ => ?_)
  · have hq : q1 = true ∧ q2 = true := by cases q1 <;> cases q2 <;> simp at h ⊢
    obtain ⟨rfl, rfl⟩ := hq
    have h1 := small3 (of_decide_eq_true hq1.symm)
    have h2 := small4 (of_decide_eq_true hq2.symm)
    have h3 : x * y ≤ 16777216 * 4294967296 := Nat.mul_le_mul (by omega) (by omega)
    (repeat (first | (with_reducible first | apply WP_seq | apply WP_region) | (apply wlp; apply pv_move; exact fI rfl)))
    (apply wlp; exact pv_mul rfl rfl; exact int_eq (b := ((x * y : Nat) : Int)) (by rw [if_pos rfl, if_pos rfl, ← Int.natCast_mul, i64_in (by omega) (by omega)]))
    (apply wls; exact st_call rfl ent40 rfl (c40 ((x * y : Nat) : Int) _ (by omega)); rintro _ w3 ⟨rfl, hk⟩; have hp := hp.call hk)
    rw [Int.toNat_natCast]
    (repeat (first | (with_reducible first | apply wpl_nil | apply thenQ_n | apply thenQ_ret | apply WP_ret) | (apply wlp; apply pv_assign; exact fT rfl)))
    exact ret_tmp rfl rfl ⟨_, rfl, rfl, hp.keeps⟩
  · (repeat (first | (with_reducible first | apply WP_seq | apply WP_region | apply thenQ_n | apply WP_skip) | (apply wlp; apply pv_move; exact fT rfl)))
    (apply wls; exact st_call rfl ent69 rfl (c69 x _ hx); rintro _ w3 ⟨s, c, rfl, hv1, hpo⟩)
    have hsx : SlAt w3 1 eD s (d24 x) := ownL_At hpo 0 rfl hv1 (fun _ => rfl)
    have hp := hp.call hpo.keeps
    clear hpo
    (repeat (first | (with_reducible first | apply WP_seq | apply WP_region | apply wpl_nil | apply thenQ_n) | (apply wlp; (first | apply pv_move | apply pv_assign); (first | exact fS rfl | exact fT rfl))))
    (apply wls; exact st_call rfl ent69 rfl (c69 y _ hy); rintro _ w4 ⟨s2, c2, rfl, hv2, hpo⟩)
    have hsy : SlAt w4 1 eD s2 (d24 y) := ownL_At hpo 0 rfl hv2 (fun _ => rfl)
    have hsx := hsx.keep0 hpo.keeps
    have hk0 := hp.keeps.trans hpo.keeps (by simp)
    clear hpo hp
    have hp := Hp.start (M := []) (w := w4)
    (repeat (first | (with_reducible first | apply WP_seq | apply WP_region | apply wpl_nil | apply thenQ_n) | (apply wlp; ((first | apply pv_move | apply pv_assign | (apply pf_len; exact rfl)) <;> exact rfl); (first | exact fI rfl | exact fS rfl))))
    (apply wlp; (exact pv_add rfl rfl); exact int_eq (b := (((d24 x).length + (d24 y).length : Nat) : Int)) (by rw [i64_in (by omega) (by omega)]; omega))
    (apply wls; exact sf_make eD 0 hp rfl rfl rfl rfl rfl rfl rfl (by omega) rfl; rintro _ w5 ⟨g, rfl, hv, hp⟩)
    (repeat (first | (with_reducible first | apply WP_seq | apply WP_block | apply WP_region | apply wpl_nil | apply thenQ_n) | (apply wlp; apply pv_assign; (first | exact fI rfl | exact fS rfl))))
    refine WP_loop2 [12, 13, 14, 15, 44, 45, 46, 47, 48, 49, 50, 51, 52, 53, 54, 55, 56, 57, 58, 59, 60, 61, 62, 63, 64, 65, 66, 67, 68, 69, 70, 71, 72, 73, 74, 75, 76, 77, 78, 79, 80, 81, 82, 83, 84, 85, 86, 87, 88, 89] (fun (i : Nat) (_z : List Nat) F => F.put 12 (.int .i64 (i : Int)))
      (fun i z w' => i ≤ (d24 x).length ∧ z.length = (d24 x).length + (d24 y).length ∧ Bd 16777216 z ∧ val 16777216 z = x % 16777216 ^ i * y ∧ SVL (some ⟨g, 0, none⟩) ((d24 x).length + (d24 y).length) z ∧ Hp w4 [] w' [ownL eD 3 1 (some ⟨g, 0, none⟩) ((d24 x).length + (d24 y).length) z])
      (fun i _ => (d24 x).length - i) 0 (List.replicate ((d24 x).length + (d24 y).length) 0) (put_self (Same.eq .refl) rfl) ⟨Nat.zero_le _, by simp, zeros_bd (by decide) _, by simp [val_zeros, Nat.mod_one], hv, hp⟩ ?_
    clear hp hv
    rintro u i z w6 ⟨hi, hzl, hzb, hval, hv, hp⟩
    (repeat (first | (with_reducible first | apply WP_seq | apply WP_region | apply wpl_nil | apply thenQ_n) | (apply wlp; ((first | apply pv_move | (apply pf_len; exact rfl) | apply pv_lss) <;> exact rfl); (first | exact fI rfl | exact fB rfl | exact fS rfl))))
    refine WP_cond_d rfl (fun h2 => ?_) (fun h2 => ?_)
    · have hlt : i < (d24 x).length := by omega
      obtain ⟨b0, o0, hs0, hc0⟩ := hsx.base (by omega)
      have hci := hc0 i _ (List.getElem?_eq_getElem hlt) 0 _ rfl
      have hbd := (d24_bd x).get hlt
      have hg := d24_get hlt
      generalize (d24 x)[i] = dx at hci hbd hg
      have hci : w4.cell? ⟨b0, o0 + i * 1, none⟩ = some (.int .i64 (dx : Int)) := hci
      have htop : z[i + (d24 y).length]? = some 0 := by
        have h1 : i + (d24 y).length < z.length := by omega
        rw [List.getElem?_eq_getElem h1]
        congr 1
        refine val_high (b := 16777216) (by decide) (k := i + (d24 y).length) ?_ h1 (Nat.le_refl _)
        rw [hval, Nat.pow_add]
        exact Nat.mul_lt_mul'' (Nat.mod_lt _ (Nat.pow_pos (by decide))) (d24_lt (Nat.le_refl _))
      (repeat (first | (with_reducible first | apply WP_seq | apply WP_block | apply WP_region | apply wpl_nil | apply thenQ_n | apply WP_skip) | (apply wlp; apply pv_assign; exact fI rfl)))
      refine WP_loop3 [13, 14, 15, 50, 51, 52, 53, 54, 55, 56, 57, 58, 59, 60, 61, 62, 63, 64, 65, 66, 67, 68, 69, 70, 71, 72, 73, 74, 75, 76, 77, 78, 79, 80, 81, 82] (fun (j cy : Nat) (_z : List Nat) F => (F.put 14 (.int .i64 (j : Int))).put 13 (.int .i64 (cy : Int)))
        (fun j cy z w' => j ≤ (d24 y).length ∧ z.length = (d24 x).length + (d24 y).length ∧ Bd 16777216 z ∧ cy < 16777216 ∧ val 16777216 z + cy * 16777216 ^ (i + j) = x % 16777216 ^ i * y + dx * (y % 16777216 ^ j) * 16777216 ^ i ∧ z[i + (d24 y).length]? = some 0 ∧ SVL (some ⟨g, 0, none⟩) ((d24 x).length + (d24 y).length) z ∧ Hp w4 [] w' [ownL eD 3 1 (some ⟨g, 0, none⟩) ((d24 x).length + (d24 y).length) z])
        (fun j _ _ => (d24 y).length - j) 0 0 z (put_self (put_self (Same.eq .refl) rfl) rfl) ⟨Nat.zero_le _, hzl, hzb, by omega, by simp [hval, Nat.mod_one], htop, hv, hp⟩ ?_
      clear hp hv hzl hzb hval htop z
      rintro u2 j cy z w7 ⟨hj, hzl, hzb, hcy, hval, htop, hv, hp⟩
      (repeat (first | (with_reducible first | apply WP_seq | apply WP_region | apply wpl_nil | apply thenQ_n) | (apply wlp; ((first | apply pv_move | (apply pf_len; exact rfl) | apply pv_lss) <;> exact rfl); (first | exact fI rfl | exact fB rfl | exact fS rfl))))
      refine WP_cond_d rfl (fun h3 => ?_) (fun h3 => ?_)
      · have hltj : j < (d24 y).length := by omega
        have hij : i + j < (d24 x).length + (d24 y).length := by omega
        have hijz : i + j < z.length := by omega
        obtain ⟨b1, o1, hs1, hc1⟩ := hsy.base (by omega)
        have hcj := hc1 j _ (List.getElem?_eq_getElem hltj) 0 _ rfl
        have hbd2 := (d24_bd y).get hltj
        have hg2 := d24_get hltj
        generalize (d24 y)[j] = dy at hcj hbd2 hg2
        have hcj : w4.cell? ⟨b1, o1 + j * 1, none⟩ = some (.int .i64 (dy : Int)) := hcj
        have hgz := List.getElem?_eq_getElem hijz
        have hzo := hzb.get hijz
        have hset := fun d => val_set 16777216 z (i + j) d hijz
        generalize z[i + j] = old at hgz hzo hset
        have hcz : w7.cell? ⟨g, 0 + (i + j) * 1, none⟩ = some (.int .i64 (old : Int)) := own_elem hp 0 rfl hv (fun _ => rfl) hgz 0 _ rfl
        have hfit := mul_fit hcy hbd hbd2 hzo
        obtain ⟨pr, hpr⟩ : ∃ pr, pr = dx * dy := ⟨_, rfl⟩
        rw [← hpr] at hfit
        (repeat (with_reducible first | apply WP_seq | apply WP_block | apply thenQ_n | apply WP_skip))
        have HP7 := hp
        refine WP_draw mixed (by kernel_rfl) (fun w' => Hp w7 [] w' []) Hp.start.drew ?_
        (apply wdp; exact rfl; (intro w hp; exact pv_move); exact fS rfl)
        (apply wdp; exact rfl; (intro w hp; exact pv_move); exact fI rfl)
        (apply wdp; exact rfl; (intro w hp; exact pv_move); exact fI rfl)
        (apply wdp; exact rfl; (intro w hp; exact pv_add rfl rfl); exact int_eq (b := ((i + j : Nat) : Int)) (by rw [i64_in (by omega) (by omega)]; omega))
        (apply wdp; exact rfl; (intro w hp; exact pf_index rfl rfl rfl rfl hij); exact fP rfl)
        (apply wdp; exact rfl; (intro w hp; exact pf_load rfl rfl (hp.old0 hcz)); exact fI rfl)
        (apply wdp; exact rfl; (intro w hp; exact pv_move); exact fS rfl)
        (apply wdp; exact rfl; (intro w hp; exact pv_move); exact fI rfl)
        (apply wdp; exact rfl; (intro w hp; exact pf_index rfl rfl rfl hs0 hlt); exact fP rfl)
        have hci7 := HP7.keeps.cell hci (by simp)
        (apply wdp; exact rfl; (intro w hp; exact pf_load rfl rfl (hp.old0 hci7)); exact fI rfl)
        (apply wdp; exact rfl; (intro w hp; exact pv_move); exact fS rfl)
        (apply wdp; exact rfl; (intro w hp; exact pv_move); exact fI rfl)
        (apply wdp; exact rfl; (intro w hp; exact pf_index rfl rfl rfl hs1 hltj); exact fP rfl)
        have hcj7 := HP7.keeps.cell hcj (by simp)
        (apply wdp; exact rfl; (intro w hp; exact pf_load rfl rfl (hp.old0 hcj7)); exact fI rfl)
        (apply wdp; exact rfl; (intro w hp; exact pv_mul rfl rfl); exact int_eq (b := (pr : Int)) (by rw [← Int.natCast_mul, ← hpr, i64_in (by omega) (by omega)]))
        (apply wdp; exact rfl; (intro w hp; exact pv_add rfl rfl); exact int_eq (b := ((old + pr : Nat) : Int)) (by rw [i64_in (by omega) (by omega)]; omega))
        (apply wdp; exact rfl; (intro w hp; exact pv_move); exact fI rfl)
        (apply wdp; exact rfl; (intro w hp; exact pv_add rfl rfl); exact int_eq (b := ((old + pr + cy : Nat) : Int)) (by rw [i64_in (by omega) (by omega)]; omega))
        obtain ⟨S, hS⟩ : ∃ S, S = old + pr + cy := ⟨_, rfl⟩
        rw [← hS]
        (repeat ((apply wdp; exact rfl); (intro w hp; intros; apply pv_assign); (intros; exact fI rfl)))
        refine wpd_nil ?_
        have hp := HP7.drew
        (repeat (first | (with_reducible first | apply WP_seq | apply WP_region | apply thenQ_n) | (apply wlp; apply pv_move; (first | exact fI rfl | exact fS rfl))))
        (apply wlp; (exact pv_add rfl rfl); exact int_eq (b := ((i + j : Nat) : Int)) (by rw [i64_in (by omega) (by omega)]; omega))
        (repeat (apply wlp; apply pv_move; exact fI rfl))
        (apply wlp; exact pn_remI (b := 16777216) rfl rfl (by decide); exact fI rfl)
        (repeat (apply wlp; ((apply pf_index; exact rfl) <;> (first | exact rfl | assumption)); exact fP rfl))
        (apply wls0; exact st_setL eD z (i + j) _ hp 0 rfl hv hijz rfl rfl (fun _ => rfl) rfl rfl (sizeTy_ok rfl); rintro _ w8 ⟨rfl, hp⟩)
        (repeat (first | (with_reducible first | apply WP_region | apply wpl_nil | apply thenQ_n) | (apply wlp; apply pv_move; exact fI rfl)))
        (apply wlp; exact pn_quoI (b := 16777216) rfl rfl (by decide) (by omega); exact fI rfl)
        (repeat (first | (with_reducible first | apply WP_region | apply wpl_nil | apply thenQ_n | apply inBlk_n) | (apply wlp; (first | apply pv_move | apply pv_assign); exact fI rfl)))
        (apply wlp; exact pv_add rfl rfl; exact int_eq (i64_in (by omega) (by omega)))
        (repeat (first | (with_reducible first | apply wpl_nil | apply thenQ_n) | (apply wlp; apply pv_assign; exact fI rfl)))
        refine ⟨j + 1, _, _, put_self (put_self (Same.eq (by repeat (first | exact Same.hav | exact Same.refl | refine Same.put rfl ?_ | refine Same.havs rfl ?_))) rfl) rfl, ⟨by omega, ?_, ?_, ?_, ?_, ?_, hv.set _ _, hp⟩, by omega⟩
        · rw [List.length_set, hzl]
        · exact hzb.set (by omega)
        · omega
        · exact mul_step hval (by rw [← hg2, ← hpr]; omega) (hset _)
        · rw [List.getElem?_set_ne (by omega)]
          exact htop
      · obtain rfl : j = (d24 y).length := by omega
        have hij : i + (d24 y).length < (d24 x).length + (d24 y).length := by omega
        have hijz : i + (d24 y).length < z.length := by omega
        (repeat (first | (with_reducible first | apply WP_region | apply thenQ_n | apply thenQ_exit | apply WP_exit) | ((with_reducible apply inBlk_same); exact rfl) | (apply wlp; ((first | apply pv_move | (apply pf_len; exact rfl)) <;> exact rfl); (first | exact fI rfl | exact fS rfl))))
        (apply wlp; (exact pv_add rfl rfl); exact int_eq (b := ((i + (d24 y).length : Nat) : Int)) (by rw [i64_in (by omega) (by omega)]; omega))
        (repeat (apply wlp; ((first | apply pv_move | (apply pf_index; exact rfl)) <;> (first | exact rfl | assumption)); (first | exact fI rfl | exact fP rfl)))
        (apply wls0; exact st_setL eD z (i + (d24 y).length) _ hp 0 rfl hv hijz rfl rfl (fun _ => rfl) rfl rfl (sizeTy_ok rfl); rintro _ w8 ⟨rfl, hp⟩)
        (repeat (first | (with_reducible first | apply WP_region | apply wpl_nil | apply thenQ_n | apply inBlk_n) | (apply wlp; apply pv_move; exact fI rfl)))
        (apply wlp; exact pv_add rfl rfl; exact int_eq (i64_in (by omega) (by omega)))
        (repeat (first | (with_reducible first | apply wpl_nil | apply thenQ_n) | (apply wlp; apply pv_assign; exact fI rfl)))
        refine ⟨i + 1, _, put_self (Same.eq (by repeat (first | exact Same.hav | exact Same.refl | refine Same.put rfl ?_ | refine Same.havs rfl ?_))) rfl, ⟨by omega, ?_, ?_, ?_, hv.set _ _, hp⟩, by omega⟩
        · rw [List.length_set, hzl]
        · exact hzb.set hcy
        · have h1 := val_set 16777216 z (i + (d24 y).length) cy hijz
          have h0 : z[i + (d24 y).length] = 0 := by
            rw [List.getElem?_eq_getElem hijz] at htop
            simpa using htop
          rw [h0, Nat.mul_zero, Nat.add_zero, Nat.mul_comm (16777216 ^ _) cy, hval, Nat.mod_eq_of_lt (d24_lt (Nat.le_refl (d24 y).length))] at h1
          rw [h1, mul_row, ← hg]
    · obtain rfl : i = (d24 x).length := by omega
      rw [Nat.mod_eq_of_lt (d24_lt (Nat.le_refl _))] at hval
      have h70 := c70 z (some ⟨g, 0, none⟩) ((d24 x).length + (d24 y).length) w6 (ownL_At hp 0 rfl hv (fun _ => rfl)) hzb (by omega)
      rw [hval, hzl] at h70
      (repeat (first | (with_reducible first | apply WP_seq | apply WP_region | apply thenQ_n | apply thenQ_exit | apply WP_exit) | ((with_reducible apply inBlk_same); exact rfl) | (apply wlp; apply pv_move; exact fS rfl)))
      (apply wls; exact st_call rfl ent70 rfl h70; rintro _ w7 ⟨rfl, hk2⟩; have hp := hp.call hk2)
      (repeat (first | (with_reducible first | apply wpl_nil | apply thenQ_n | apply WP_ret) | (apply wlp; apply pv_assign; exact fT rfl)))
      exact ret_tmp rfl rfl ⟨_, rfl, rfl, hk0.trans hp.keeps (by simp)⟩
end Go.Proofs.YteklkjnhefnimaaDoor
/- sortesref18: Choose, Factorial, IsSet, Rank, Unrank; conditions: at most 100 elements, or more than 1000; lists in memory. -/
namespace Go.Proofs.YteklkjnhefnimaaDoor
open Go.Eng Go.Dig

def eN (x : Nat) : List Value := [.string (ofN x)]

attribute [local irreducible] PV StepF wpl wpd WP Ret
attribute [local irreducible] Fit RB

theorem c14 (n k : Int) (w : World) (hn : n ≤ 100 ∨ n > 1000) : Ret Tryd.prog 14 [.int .i64 n, .int .i64 k] w (fun v w' => v = .string (ofN (chZ n k)) ∧ Keeps [] w w') := by
  refine Ret.of_WP Tryd.func14 rfl Tryd.ntmps14 rfl ?_
  have hp := Hp.start (M := []) (w := w)
  (repeat (first | (with_reducible first | apply WP_seq | apply WP_region | apply wpl_nil | apply thenQ_n) | ((first | apply wlp | (apply wlg; exact rfl; exact rfl)); (intros; ((first | apply pv_move | apply pv_assign | exact pv_or rfl rfl rfl | apply pv_lss | apply pv_gtr) <;> (first | exact rfl | exact ev_sel rfl (by assumption)))); (intros; (first | exact fI rfl | exact fB rfl | exact fT rfl)))))
  refine WP_cond rfl (fun h => ?_) (fun h => ?_)
  · have hz : chZ n k = 0 := chZ_zero (by simp at h; omega)
    (repeat (with_reducible first | apply WP_seq | apply WP_region))
    (apply wls; exact st_call rfl ent40 rfl (c40 0 _ (by decide)); rintro _ w1 ⟨rfl, hk⟩; have hp := hp.call hk)
    (repeat (first | (with_reducible first | apply wpl_nil | apply thenQ_n | apply thenQ_ret | apply WP_ret) | (apply wlp; apply pv_assign; exact fT rfl)))
    exact ret_tmp rfl rfl ⟨_, rfl, by rw [hz]; rfl, hp.keeps⟩
  · have h0 : 0 ≤ k ∧ k ≤ n ∧ n ≤ 100 := by simp at h; omega
    obtain ⟨N, rfl⟩ : ∃ N : Nat, n = N := ⟨n.toNat, by omega⟩
    obtain ⟨K, rfl⟩ : ∃ K : Nat, k = K := ⟨k.toNat, by omega⟩
    rw [chZ_nat (by omega)]
    clear h
    (repeat (first | (with_reducible first | apply WP_seq | apply WP_region | apply thenQ_n | apply WP_skip) | (apply wlp; apply pv_move; exact fI rfl)))
    (apply wlp; (exact pv_add rfl rfl); exact int_eq (b := ((K + 1 : Nat) : Int)) (by rw [i64_in (by omega) (by omega)]; omega))
    (apply wls; exact sf_make eN 0 hp rfl rfl rfl rfl rfl rfl rfl (by omega) rfl; rintro _ w1 ⟨g, rfl, hv, hp⟩)
    (repeat (first | (with_reducible first | apply WP_seq | apply WP_block | apply WP_region | apply wpl_nil | apply thenQ_n) | (apply wlp; apply pv_assign; (first | exact fI rfl | exact fS rfl))))
    refine WP_loopS [6, 28, 29, 30, 31, 32, 33, 34, 35, 36] (fun (j : Nat) F => F.put 6 (.int .i64 (j : Int))) (fun j w' => j ≤ K + 1 ∧ Hp w [] w' [ownL eN 23 1 (some ⟨g, 0, none⟩) (K + 1) (List.replicate (K + 1) 0)]) (fun j => K + 1 - j) 0 (put_self (Same.eq .refl) rfl) ⟨Nat.zero_le _, hp⟩ ?_
    clear hp
    rintro u j w2 ⟨hj, hp⟩
    (repeat (first | (with_reducible first | apply WP_seq | apply WP_region | apply wpl_nil | apply thenQ_n) | (apply wlp; ((first | apply pv_move | apply pv_leq) <;> exact rfl); (first | exact fI rfl | exact fB rfl))))
    refine WP_cond_d rfl (fun h2 => ?_) (fun h2 => ?_)
    · have hj1 : j < K + 1 := by omega
      have hrep : (List.replicate (K + 1) 0).set j 0 = List.replicate (K + 1) 0 := by
        apply List.ext_getElem?
        intro q
        rw [List.getElem?_set]
        by_cases hq : j = q
        · subst hq
          rw [if_pos rfl, if_pos (by simpa using hj1), List.getElem?_replicate, if_pos hj1]
        · rw [if_neg hq]
      (repeat (first | (with_reducible first | apply WP_seq | apply WP_block | apply WP_region | apply thenQ_n | apply WP_skip) | (apply wlp; apply pv_move; (first | exact fI rfl | exact fS rfl))))
      (apply wls; exact st_call rfl ent40 rfl (c40 0 _ (by decide)); rintro _ w3 ⟨rfl, hk⟩; have hp := hp.call hk)
      (repeat (apply wlp; ((apply pf_index; exact rfl) <;> (first | exact rfl | assumption)); exact fP rfl))
      (apply wls0; exact st_setL eN _ j 0 hp 0 rfl hv (by simpa using hj1) rfl rfl (fun _ => rfl) rfl rfl (sizeTy_ok rfl); rintro _ w4 ⟨rfl, hp⟩)
      rw [hrep] at hp
      (repeat (first | (with_reducible first | apply WP_region | apply wpl_nil | apply thenQ_n | apply inBlk_n) | (apply wlp; apply pv_move; exact fI rfl)))
      (apply wlp; exact pv_add rfl rfl; exact int_eq (i64_in (by omega) (by omega)))
      (repeat (first | (with_reducible first | apply wpl_nil | apply thenQ_n) | (apply wlp; apply pv_assign; exact fI rfl)))
      exact ⟨j + 1, put_self (Same.eq (by repeat (first | exact Same.hav | exact Same.refl | refine Same.put rfl ?_ | refine Same.havs rfl ?_))) rfl, ⟨by omega, hp⟩, by omega⟩
    · have h0K : 0 < K + 1 := by omega
      (repeat (first | (with_reducible first | apply WP_seq | apply WP_region | apply thenQ_n | apply thenQ_exit | apply WP_exit) | ((with_reducible apply inBlk_same); exact rfl) | (apply wlp; apply pv_move; exact fS rfl)))
      (apply wls; exact st_call rfl ent40 rfl (c40 1 _ (by decide)); rintro _ w3 ⟨rfl, hk⟩; have hp := hp.call hk)
      (apply wlp; exact pf_index (i := 0) rfl rfl rfl rfl h0K; exact fP rfl)
      (apply wls0; exact st_setL eN _ 0 1 hp 0 rfl hv (by simp) rfl rfl (fun _ => rfl) rfl rfl (sizeTy_ok rfl); rintro _ w4 ⟨rfl, hp⟩)
      have hv := hv.set 0 1
      (repeat (first | (with_reducible first | apply WP_seq | apply WP_block | apply WP_region | apply wpl_nil | apply thenQ_n) | (apply wlp; apply pv_assign; exact fI rfl)))
      refine WP_loop2 [7, 8, 40, 41, 42, 43, 44, 45, 46, 47, 48, 49, 50, 51, 52, 53, 54, 55, 56, 57, 58, 59, 60, 61, 62] (fun (i : Nat) (_z : List Nat) F => F.put 7 (.int .i64 (i : Int)))
        (fun i z w' => i ≤ N ∧ z.length = K + 1 ∧ (∀ q, q ≤ K → z[q]? = some (ch i q)) ∧ SVL (some ⟨g, 0, none⟩) (K + 1) z ∧ Hp w [] w' [ownL eN 23 1 (some ⟨g, 0, none⟩) (K + 1) z]) (fun i _ => N - i) 0 ((List.replicate (K + 1) 0).set 0 1) (put_self (Same.eq .refl) rfl) ⟨Nat.zero_le _, by simp, ?_, hv, hp⟩ ?_
      · intro q hq
        rw [List.getElem?_set]
        by_cases h0 : 0 = q
        · subst h0
          rw [if_pos rfl, if_pos (by simp)]
          rfl
        · rw [if_neg h0, List.getElem?_replicate, if_pos (by omega)]
          obtain ⟨q', rfl⟩ : ∃ q', q = q' + 1 := ⟨q - 1, by omega⟩
          rfl
      clear hp hv
      rintro u2 i z w5 ⟨hi, hzl, hz, hv, hp⟩
      (repeat (first | (with_reducible first | apply WP_seq | apply WP_region | apply wpl_nil | apply thenQ_n) | (apply wlp; ((first | apply pv_move | apply pv_lss) <;> exact rfl); (first | exact fI rfl | exact fB rfl))))
      refine WP_cond_d rfl (fun h3 => ?_) (fun h3 => ?_)
      · (repeat (first | (with_reducible first | apply WP_seq | apply WP_block | apply WP_region | apply wpl_nil | apply thenQ_n | apply WP_skip) | (apply wlp; (first | apply pv_move | apply pv_assign); exact fI rfl)))
        refine WP_loop2 [8, 46, 47, 48, 49, 50, 51, 52, 53, 54, 55, 56, 57, 58, 59, 60, 61, 62] (fun (j : Nat) (_z : List Nat) F => F.put 8 (.int .i64 (j : Int)))
          (fun j z w' => j ≤ K ∧ z.length = K + 1 ∧ (∀ q, q ≤ K → z[q]? = some (ch (if j < q then i + 1 else i) q)) ∧ SVL (some ⟨g, 0, none⟩) (K + 1) z ∧ Hp w [] w' [ownL eN 23 1 (some ⟨g, 0, none⟩) (K + 1) z]) (fun j _ => j) K z (put_self (Same.eq .refl) rfl) ⟨Nat.le_refl _, hzl, ?_, hv, hp⟩ ?_
        · intro q hq
          rw [if_neg (by omega)]
          exact hz q hq
        clear hp hv hz hzl
        rintro u3 j z w6 ⟨hj, hzl, hz, hv, hp⟩
        (repeat (first | (with_reducible first | apply WP_seq | apply WP_region | apply wpl_nil | apply thenQ_n) | (apply wlp; ((first | apply pv_move | apply pv_gtr) <;> exact rfl); (first | exact fI rfl | exact fB rfl))))
        refine WP_cond_d rfl (fun h4 => ?_) (fun h4 => ?_)
        · obtain ⟨m, rfl⟩ : ∃ m, j = m + 1 := ⟨j - 1, by omega⟩
          have hj1 : m + 1 < K + 1 := by omega
          have hm1 : m < K + 1 := by omega
          have hjz : m + 1 < z.length := by omega
          have hz1 := hz (m + 1) (by omega)
          have hz0 := hz m (by omega)
          rw [if_neg (by omega)] at hz1 hz0
          have hf1 : Fit (ch i (m + 1)) := ch_fit (by omega)
          have hf0 : Fit (ch i m) := ch_fit (by omega)
          (repeat (with_reducible first | apply WP_seq | apply WP_block | apply thenQ_n | apply WP_skip))
          refine WP_drawS mixed (by kernel_rfl) (fun w' => Hp w [] w' _) hp.drew ?_
          have hp := hp.drew
          (apply wdp; exact rfl; (intro w hp; exact pv_move); exact fS rfl)
          (apply wdp; exact rfl; (intro w hp; exact pv_move); exact fI rfl)
          (apply wdp; exact rfl; (intro w hp; exact pv_move); exact fS rfl)
          (apply wdp; exact rfl; (intro w hp; exact pv_move); exact fI rfl)
          (apply wdp; exact rfl; (intro w hp; exact pf_index rfl rfl rfl rfl hj1); exact fP rfl)
          (apply wdp; exact rfl; (intro w hp; exact pf_load rfl rfl (own_elem hp 0 rfl hv (fun _ => rfl) hz1 0 _ rfl)); exact fT rfl)
          (apply wdp; exact rfl; (intro w hp; exact pv_move); exact fS rfl)
          (apply wdp; exact rfl; (intro w hp; exact pv_move); exact fI rfl)
          (apply wdp; exact rfl; (intro w hp; exact pv_sub rfl rfl); exact int_eq (b := ((m : Nat) : Int)) (by rw [i64_in (by omega) (by omega)]; omega))
          (apply wdp; exact rfl; (intro w hp; exact pf_index rfl rfl rfl rfl hm1); exact fP rfl)
          (apply wdp; exact rfl; (intro w hp; exact pf_load rfl rfl (own_elem hp 0 rfl hv (fun _ => rfl) hz0 0 _ rfl)); exact fT rfl)
          (apply wds; exact rfl; exact st_call rfl ent41 rfl (c41 (ch i (m + 1)) (ch i m) _ hf1 hf0); rintro _ w7 ⟨rfl, hk⟩; have hp := hp.call hk; refine ⟨hp, ?_⟩)
          (apply wdp; exact rfl; (intro w hp; exact pf_index rfl rfl rfl rfl hj1); exact fP rfl)
          (apply wds0S; exact rfl; exact rfl; exact st_setL eN z (m + 1) _ hp 0 rfl hv hjz rfl rfl (fun _ => rfl) rfl rfl (sizeTy_ok rfl); rintro _ w8 ⟨rfl, hp⟩)
          refine wpd_nil ?_
          (repeat (first | (with_reducible first | apply WP_region | apply thenQ_n | apply inBlk_n) | (apply wlp; apply pv_move; exact fI rfl)))
          (apply wlp; exact pv_sub rfl rfl; exact int_eq (i64_in (by omega) (by omega)))
          (repeat (first | (with_reducible first | apply wpl_nil | apply thenQ_n) | (apply wlp; apply pv_assign; exact fI rfl)))
          refine ⟨m, _, put_self (Same.eq (by repeat (first | exact Same.hav | exact Same.refl | refine Same.put rfl ?_ | refine Same.havs rfl ?_))) (int_eq (by omega)), ⟨by omega, by rw [List.length_set, hzl], ?_, hv.set _ _, hp⟩, by omega⟩
          intro q hq
          rw [List.getElem?_set]
          by_cases hmq : m + 1 = q
          · subst hmq
            rw [if_pos rfl, if_pos hjz, if_pos (by omega), ch_pascal, Nat.add_comm]
          · rw [if_neg hmq, hz q hq]
            by_cases hq2 : m + 1 < q
            · rw [if_pos hq2, if_pos (by omega)]
            · rw [if_neg hq2, if_neg (by omega)]
        · obtain rfl : j = 0 := by omega
          (repeat (first | (with_reducible first | apply WP_region | apply thenQ_n | apply inBlk_n | apply thenQ_exit | apply WP_exit) | ((with_reducible apply inBlk_same); exact rfl) | (apply wlp; apply pv_move; exact fI rfl)))
          (apply wlp; exact pv_add rfl rfl; exact int_eq (i64_in (by omega) (by omega)))
          (repeat (first | (with_reducible first | apply wpl_nil | apply thenQ_n) | (apply wlp; apply pv_assign; exact fI rfl)))
          refine ⟨i + 1, z, put_self (Same.eq (by repeat (first | exact Same.hav | exact Same.refl | refine Same.put rfl ?_ | refine Same.havs rfl ?_))) rfl, ⟨by omega, hzl, ?_, hv, hp⟩, by omega⟩
          intro q hq
          have := hz q hq
          by_cases hq0 : 0 < q
          · rwa [if_pos hq0] at this
          · obtain rfl : q = 0 := by omega
            rw [if_neg hq0, ch_zero] at this
            rw [ch_zero]
            exact this
      · obtain rfl : i = N := by omega
        have hK1 : K < K + 1 := by omega
        have hzK := hz K (Nat.le_refl _)
        have hcz : w5.cell? ⟨g, 0 + K * 1, none⟩ = some (.string (ofN (ch i K))) := own_elem hp 0 rfl hv (fun _ => rfl) hzK 0 _ rfl
        (repeat (first | (with_reducible first | apply WP_seq | apply WP_region | apply wpl_nil | apply thenQ_n | apply thenQ_exit | apply WP_ret | apply WP_exit) | ((with_reducible apply inBlk_same); exact rfl) | (apply wlp; ((first | apply pv_move | apply pv_assign | (apply pf_load; exact rfl) | (apply pf_index; exact rfl)) <;> (first | exact rfl | assumption)); (first | exact fI rfl | exact fP rfl | exact fS rfl | exact fT rfl))))
        exact ret_tmp rfl rfl ⟨_, rfl, rfl, hp.keeps⟩
theorem c16 (n : Nat) (w : World) (hn : n ≤ 100) : Ret Tryd.prog 16 [.int .i64 (n : Int)] w (fun v w' => v = .string (ofN (fact n)) ∧ Keeps [] w w') := by
  refine Ret.of_WP Tryd.func16 rfl Tryd.ntmps16 rfl ?_
  have hp := Hp.start (M := []) (w := w)
  (repeat (first | (with_reducible first | apply WP_seq | apply WP_region | apply wpl_nil | apply thenQ_n) | ((first | apply wlp | (apply wlg; exact rfl; exact rfl)); (intros; ((first | apply pv_move | apply pv_assign | exact pv_orF rfl rfl | apply pv_lss | apply pv_gtr) <;> exact rfl)); (intros; (first | exact fI rfl | exact fB rfl | exact fT rfl)))))
  refine WP_cond rfl (fun h => ?_) (fun _ => ?_)
  · exfalso
    simp at h
    omega
  (repeat (with_reducible first | apply WP_seq | apply WP_region | apply thenQ_n | apply WP_skip))
  (apply wls; exact st_call rfl ent40 rfl (c40 1 _ (by decide)); rintro _ w1 ⟨rfl, hk⟩; have hp := hp.call hk)
  (repeat (first | (with_reducible first | apply WP_seq | apply WP_block | apply WP_region | apply wpl_nil | apply thenQ_n) | (apply wlp; apply pv_assign; (first | exact fI rfl | exact fT rfl))))
  refine WP_loopS [3, 4, 13, 14, 15, 16, 17, 18, 19, 20, 21] (fun (m : Nat) F => (F.put 4 (.int .i64 ((m : Int) + 2))).put 3 (.string (ofN (fact (m + 1))))) (fun m w' => (m + 1 ≤ n ∨ m = 0) ∧ Hp w [] w' []) (fun m => n - m) 0 (put_self (put_self (Same.eq .refl) rfl) rfl) ⟨.inr rfl, hp⟩ ?_
  clear hp
  rintro u m w2 ⟨hm, hp⟩
  (repeat (first | (with_reducible first | apply WP_seq | apply WP_region | apply wpl_nil | apply thenQ_n) | (apply wlp; ((first | apply pv_move | apply pv_leq) <;> exact rfl); (first | exact fI rfl | exact fB rfl))))
  refine WP_cond_d rfl (fun h => ?_) (fun h => ?_)
  · have hst : fact (m + 2) = fact (m + 1) * (m + 2) := by
      rw [show fact (m + 2) = (m + 2) * fact (m + 1) from rfl, Nat.mul_comm]
    (repeat (first | (with_reducible first | apply WP_seq | apply WP_block | apply WP_region | apply thenQ_n | apply WP_skip) | (apply wlp; apply pv_move; (first | exact fI rfl | exact fT rfl))))
    (apply wls; exact st_call rfl ent40 rfl (c40 ((m : Int) + 2) _ (by omega)); rintro _ w3 ⟨rfl, hk⟩; have hp := hp.call hk)
    rw [show ((m : Int) + 2).toNat = m + 2 from by omega]
    (apply wls; exact st_call rfl ent43 rfl (c43 (fact (m + 1)) (m + 2) _ (fact_fit (by omega)) (Fit.small (by omega))); rintro _ w4 ⟨rfl, hk⟩; have hp := hp.call hk)
    rw [← hst]
    (repeat (first | (with_reducible first | apply WP_region | apply wpl_nil | apply thenQ_n | apply inBlk_n) | (apply wlp; (first | apply pv_move | apply pv_assign); (first | exact fI rfl | exact fT rfl))))
    (apply wlp; exact pv_add rfl rfl; exact int_eq (i64_in (by omega) (by omega)))
    (repeat (first | (with_reducible first | apply wpl_nil | apply thenQ_n) | (apply wlp; apply pv_assign; exact fI rfl)))
    exact ⟨m + 1, put_self (put_self (Same.eq (by repeat (first | exact Same.hav | exact Same.refl | refine Same.put rfl ?_ | refine Same.havs rfl ?_))) (int_eq (by omega))) rfl, ⟨by omega, hp⟩, by omega⟩
  · have hfn : fact (m + 1) = fact n := by
      rcases hm with hm | hm
      · rw [show m + 1 = n from by omega]
      · subst hm
        have : n = 0 ∨ n = 1 := by omega
        rcases this with rfl | rfl <;> rfl
    rw [hfn]
    (repeat (first | (with_reducible first | apply WP_seq | apply WP_region | apply wpl_nil | apply thenQ_n | apply thenQ_exit | apply WP_ret | apply WP_exit) | ((with_reducible apply inBlk_same); exact rfl) | (apply wlp; (first | apply pv_move | apply pv_assign); exact fT rfl)))
    exact ret_tmp rfl rfl ⟨_, rfl, rfl, hp.keeps⟩
end Go.Proofs.YteklkjnhefnimaaDoor
/- sortesref18: IsSet, Rank, Unrank; conditions: lists in memory, a rank that is short. -/
namespace Go.Proofs.YteklkjnhefnimaaDoor
open Go.Eng Go.Dig

theorem setB_of {pool : Int} (l : List Int) (h : 0 ≤ pool ∧ pool ≤ 60) : setB pool l = isU pool l l.length := by
  unfold setB
  rw [decide_eq_true h.1, decide_eq_true h.2]
  rfl

attribute [local irreducible] PV StepF wpl wpd WP Ret
attribute [local irreducible] Fit RB

theorem c53 (pool : Int) (l : List Int) (s : Option Addr) (c : Nat) (w : World) (hs : SlAt w 1 eI s l) (hl : l.length ≤ 9223372036854775806) :
    Ret Tryd.prog 53 [.int .i64 pool, .slice s l.length c] w (fun v w' => v = .bool (setB pool l) ∧ Keeps [] w w') := by
  refine Ret.of_WP Tryd.func53 rfl Tryd.ntmps53 rfl ?_
  have hp := Hp.start (M := []) (w := w)
  (repeat (first | (with_reducible first | apply WP_seq | apply WP_region | apply wpl_nil | apply thenQ_n) | ((first | apply wlp | (apply wlg; exact rfl; exact rfl)); (intros; ((first | apply pv_move | apply pv_assign | exact pv_or rfl rfl rfl | apply pv_lss | apply pv_gtr) <;> (first | exact rfl | exact ev_sel rfl (by assumption)))); (intros; (first | exact fI rfl | exact fB rfl)))))
  refine WP_cond rfl (fun h => ?_) (fun h => ?_)
  · have hz : setB pool l = false := by
      simp at h
      unfold setB
      rcases h with h | h
      · rw [decide_eq_false (show ¬ 0 ≤ pool by omega)]; rfl
      · rw [decide_eq_false (show ¬ pool ≤ 60 by omega)]; simp
    (repeat (first | (with_reducible first | apply WP_seq | apply WP_region | apply wpl_nil | apply thenQ_n | apply thenQ_ret | apply WP_ret) | (apply wlp; apply pv_assign; exact fB rfl)))
    exact ret_tmp rfl rfl ⟨_, rfl, by rw [hz]; rfl, hp.keeps⟩
  · have hpool : 0 ≤ pool ∧ pool ≤ 60 := by simp at h; omega
    rw [setB_of l hpool]
    clear h
    (repeat (first | (with_reducible first | apply WP_seq | apply WP_block | apply WP_region | apply wpl_nil | apply thenQ_n | apply WP_skip) | (apply wlp; apply pv_assign; exact fI rfl)))
    refine WP_loopS [4, 5, 12, 13, 14, 15, 16, 17, 18, 19, 20, 21, 22, 23, 24, 25, 26, 27, 28, 29, 30, 31, 32, 33, 34, 35, 36, 37, 38, 39, 40, 41, 42, 43, 44, 45, 46] (fun (i : Nat) F => F.put 5 (.int .i64 (i : Int))) (fun i w' => i ≤ l.length ∧ isU pool l i = true ∧ Hp w [] w' []) (fun i => l.length - i) 0 (put_self (Same.eq .refl) rfl) ⟨Nat.zero_le _, rfl, hp⟩ ?_
    clear hp
    rintro u i w1 ⟨hi, hU, hp⟩
    (repeat (first | (with_reducible first | apply WP_seq | apply WP_region | apply wpl_nil | apply thenQ_n) | (apply wlp; ((first | apply pv_move | (apply pf_len; exact rfl) | apply pv_lss) <;> exact rfl); (first | exact fI rfl | exact fB rfl | exact fS rfl))))
    refine WP_cond_d rfl (fun h2 => ?_) (fun h2 => ?_)
    · have hlt : i < l.length := by omega
      obtain ⟨b0, o0, hs0, hc0⟩ := hs.base (by omega)
      have hci := hc0 i _ (List.getElem?_eq_getElem hlt) 0 _ rfl
      have hgi := getD_at hlt
      have hsx : isU pool l (i + 1) = (isU pool l i && okAt pool l i) := isU_succ pool l i
      unfold okAt at hsx
      rw [hgi, hU, Bool.true_and] at hsx
      have hno : isU pool l (i + 1) = false → isU pool l l.length = false := fun h => isU_mono h (by omega)
      generalize l[i] = li at hci hgi hsx
      have hci : w.cell? ⟨b0, o0 + i * 1, none⟩ = some (.int .i64 li) := hci
      (repeat (with_reducible first | apply WP_seq | apply WP_block | apply thenQ_n | apply WP_skip))
      refine WP_draw mixed (by kernel_rfl) (fun w' => Hp _ _ w' _) hp.drew ?_
      have hp := hp.drew
      (apply wdp; exact rfl; (intro w hp; exact pv_move); exact fS rfl)
      (apply wdp; exact rfl; (intro w hp; exact pv_move); exact fI rfl)
      (apply wdp; exact rfl; (intro w hp; exact pf_index rfl rfl rfl hs0 hlt); exact fP rfl)
      (apply wdp; exact rfl; (intro w hp; exact pf_load rfl rfl (hp.old0 hci)); exact fI rfl)
      by_cases hA : li < 1
      · (apply wdp; exact rfl; (intro w hp; exact pv_lss rfl rfl); exact bool_eq (b := true) (decide_eq_true (by omega)))
        (repeat (first | ((apply wdp; exact rfl); (intro w hp; intros; (first | apply pv_move | exact pv_orT rfl)); (intros; exact fB rfl)) | (apply wdpF; exact rfl; exact rfl; exact rfl; exact rfl) | (apply wdpU; exact rfl; exact rfl; exact rfl)))
        refine wpd_nil ?_
        refine WP_cond_t rfl ?_
        rw [hno (by rw [hsx]; simp; omega)]
        (repeat (first | (with_reducible first | apply WP_seq | apply WP_region | apply wpl_nil | apply thenQ_n | apply thenQ_ret | apply inBlk_ret | apply WP_ret) | (apply wlp; apply pv_assign; exact fB rfl)))
        exact ret_tmp rfl rfl ⟨_, rfl, rfl, hp.keeps⟩
      · (apply wdp; exact rfl; (intro w hp; exact pv_lss rfl rfl); exact bool_eq (b := false) (decide_eq_false (by omega)))
        (apply wdp; exact rfl; (intro w hp; exact pv_move); exact fB rfl)
        (apply wdpT; exact rfl; exact rfl; exact rfl; (intro w hp; exact pv_move); exact fS rfl)
        (apply wdpT; exact rfl; exact rfl; exact rfl; (intro w hp; exact pv_move); exact fI rfl)
        (apply wdpT; exact rfl; exact rfl; exact rfl; (intro w hp; exact pf_index rfl rfl rfl hs0 hlt); exact fP rfl)
        (apply wdpT; exact rfl; exact rfl; exact rfl; (intro w hp; exact pf_load rfl rfl (hp.old0 hci)); exact fI rfl)
        (apply wdpT; exact rfl; exact rfl; exact rfl; (intro w hp; exact pv_move); exact fI rfl)
        by_cases hB : pool < li
        · (apply wdpT; exact rfl; exact rfl; exact rfl; (intro w hp; exact pv_gtr rfl rfl); exact bool_eq (b := true) (decide_eq_true (by omega)))
          (repeat (first | ((apply wdp; exact rfl); (intro w hp; intros; (first | apply pv_move | exact pv_orT rfl | exact pv_orF rfl rfl)); (intros; exact fB rfl)) | (apply wdpF; exact rfl; exact rfl; exact rfl; exact rfl) | (apply wdpU; exact rfl; exact rfl; exact rfl)))
          refine wpd_nil ?_
          refine WP_cond_t rfl ?_
          rw [hno (by rw [hsx]; simp; omega)]
          (repeat (first | (with_reducible first | apply WP_seq | apply WP_region | apply wpl_nil | apply thenQ_n | apply thenQ_ret | apply inBlk_ret | apply WP_ret) | (apply wlp; apply pv_assign; exact fB rfl)))
          exact ret_tmp rfl rfl ⟨_, rfl, rfl, hp.keeps⟩
        · (apply wdpT; exact rfl; exact rfl; exact rfl; (intro w hp; exact pv_gtr rfl rfl); exact bool_eq (b := false) (decide_eq_false (by omega)))
          (apply wdp; exact rfl; (intro w hp; exact pv_orF rfl rfl); exact fB rfl)
          (apply wdp; exact rfl; (intro w hp; exact pv_move); exact fB rfl)
          (apply wdpT; exact rfl; exact rfl; exact rfl; (intro w hp; exact pv_move); exact fI rfl)
          by_cases hi0 : i = 0
          · subst hi0
            (apply wdpT; exact rfl; exact rfl; exact rfl; (intro w hp; exact pv_gtr rfl rfl); exact bool_eq (b := false) (decide_eq_false (by omega)))
            (repeat (first | ((apply wdp; exact rfl); (intro w hp; intros; (first | apply pv_move | exact pv_andF rfl | exact pv_orF rfl rfl)); (intros; exact fB rfl)) | ((apply wdpT; exact rfl; exact rfl; exact rfl); (intro w hp; (first | apply pv_move | exact pv_andF rfl | exact pv_orF rfl rfl)); (intros; exact fB rfl)) | (apply wdpF; exact rfl; exact rfl; exact rfl; exact rfl) | (apply wdpU; exact rfl; exact rfl; exact rfl)))
            refine wpd_nil ?_
            refine WP_cond_f rfl ?_
            (repeat (first | (with_reducible first | apply WP_region | apply thenQ_n | apply inBlk_n | apply WP_skip) | (apply wlp; apply pv_move; exact fI rfl)))
            (apply wlp; exact pv_add rfl rfl; exact int_eq (i64_in (by omega) (by omega)))
            (repeat (first | (with_reducible first | apply wpl_nil | apply thenQ_n) | (apply wlp; apply pv_assign; exact fI rfl)))
            refine ⟨0 + 1, put_self (Same.eq (by repeat (first | exact Same.hav | exact Same.refl | refine Same.put rfl ?_ | refine Same.havs rfl ?_))) rfl, ⟨by omega, ?_, hp⟩, by omega⟩
            rw [hsx]
            simp
            omega
          · obtain ⟨q, rfl⟩ : ∃ q, i = q + 1 := ⟨i - 1, by omega⟩
            have hltq : q < l.length := by omega
            have hcq := hc0 q _ (List.getElem?_eq_getElem hltq) 0 _ rfl
            have hgq := getD_at hltq
            rw [Nat.add_sub_cancel, hgq] at hsx
            generalize l[q] = lq at hcq hsx hgq
            have hcq : w.cell? ⟨b0, o0 + q * 1, none⟩ = some (.int .i64 lq) := hcq
            (apply wdpT; exact rfl; exact rfl; exact rfl; (intro w hp; exact pv_gtr rfl rfl); exact bool_eq (b := true) (decide_eq_true (by omega)))
            (apply wdpT; exact rfl; exact rfl; exact rfl; (intro w hp; exact pv_move); exact fB rfl)
            (apply wdpT; exact rfl; exact rfl; exact rfl; (intro w hp; exact pv_move); exact fS rfl)
            (apply wdpT; exact rfl; exact rfl; exact rfl; (intro w hp; exact pv_move); exact fI rfl)
            (apply wdpT; exact rfl; exact rfl; exact rfl; (intro w hp; exact pf_index rfl rfl rfl hs0 hlt); exact fP rfl)
            (apply wdpT; exact rfl; exact rfl; exact rfl; (intro w hp; exact pf_load rfl rfl (hp.old0 hci)); exact fI rfl)
            (apply wdpT; exact rfl; exact rfl; exact rfl; (intro w hp; exact pv_move); exact fS rfl)
            (apply wdpT; exact rfl; exact rfl; exact rfl; (intro w hp; exact pv_move); exact fI rfl)
            (apply wdpT; exact rfl; exact rfl; exact rfl; (intro w hp; exact pv_sub rfl rfl); exact int_eq (b := ((q : Nat) : Int)) (by rw [i64_in (by omega) (by omega)]; omega))
            (apply wdpT; exact rfl; exact rfl; exact rfl; (intro w hp; exact pf_index rfl rfl rfl hs0 hltq); exact fP rfl)
            (apply wdpT; exact rfl; exact rfl; exact rfl; (intro w hp; exact pf_load rfl rfl (hp.old0 hcq)); exact fI rfl)
            (repeat (first | ((apply wdp; exact rfl); (intro w hp; intros; ((first | exact pv_andT rfl rfl | exact pv_orF rfl rfl | apply pv_leq) <;> exact rfl)); (intros; exact fB rfl)) | ((apply wdpT; exact rfl; exact rfl; exact rfl); (intro w hp; ((first | exact pv_andT rfl rfl | exact pv_orF rfl rfl | apply pv_leq) <;> exact rfl)); (intros; exact fB rfl)) | (apply wdpF; exact rfl; exact rfl; exact rfl; exact rfl) | (apply wdpU; exact rfl; exact rfl; exact rfl)))
            refine wpd_nil ?_
            refine WP_cond_d rfl (fun h => ?_) (fun h => ?_)
            · rw [hno (by rw [hsx]; simp; omega)]
              (repeat (first | (with_reducible first | apply WP_seq | apply WP_region | apply wpl_nil | apply thenQ_n | apply thenQ_ret | apply inBlk_ret | apply WP_ret) | (apply wlp; apply pv_assign; exact fB rfl)))
              exact ret_tmp rfl rfl ⟨_, rfl, rfl, hp.keeps⟩
            · (repeat (first | (with_reducible first | apply WP_region | apply thenQ_n | apply inBlk_n | apply WP_skip) | (apply wlp; apply pv_move; exact fI rfl)))
              (apply wlp; exact pv_add rfl rfl; exact int_eq (i64_in (by omega) (by omega)))
              (repeat (first | (with_reducible first | apply wpl_nil | apply thenQ_n) | (apply wlp; apply pv_assign; exact fI rfl)))
              refine ⟨q + 1 + 1, put_self (Same.eq (by repeat (first | exact Same.hav | exact Same.refl | refine Same.put rfl ?_ | refine Same.havs rfl ?_))) rfl, ⟨by omega, ?_, hp⟩, by omega⟩
              rw [hsx]
              simp
              omega
    · obtain rfl : i = l.length := by omega
      rw [hU]
      (repeat (first | (with_reducible first | apply WP_seq | apply WP_region | apply wpl_nil | apply thenQ_n | apply thenQ_exit | apply WP_ret | apply WP_exit) | ((with_reducible apply inBlk_same); exact rfl) | (apply wlp; apply pv_assign; exact fB rfl)))
      exact ret_tmp rfl rfl ⟨_, rfl, rfl, hp.keeps⟩
theorem c23 (pool : Int) (l : List Int) (s : Option Addr) (c : Nat) (w : World) (hs : SlAt w 1 eI s l) (hl : l.length ≤ 9223372036854775806) :
    Ret Tryd.prog 23 [.int .i64 pool, .slice s l.length c] w (fun v w' => v = .tuple #[.string (ofN (if setB pool l = true then rkN pool l l.length else 0)), .bool (setB pool l)] ∧ Keeps [] w w') := by
  refine Ret.of_WP Tryd.func23 rfl Tryd.ntmps23 rfl ?_
  have hp := Hp.start (M := []) (w := w)
  (repeat (first | (with_reducible first | apply WP_seq | apply WP_region | apply wpl_nil | apply thenQ_n) | (apply wlp; (first | apply pv_move | apply pv_assign); (first | exact fI rfl | exact fB rfl | exact fS rfl | exact fT rfl))))
  (apply wls; exact st_call rfl ent53 rfl (c53 pool l s c _ hs hl); rintro _ w1 ⟨rfl, hk⟩; have hp := hp.call hk)
  cases hB : setB pool l with
  | false =>
    (repeat (first | (with_reducible first | apply WP_seq | apply WP_region | apply wpl_nil | apply thenQ_n) | (apply wlp; ((first | apply pv_move | apply pv_assign | apply pv_not) <;> exact rfl); exact fB rfl)))
    refine WP_cond_t rfl ?_
    (repeat (with_reducible first | apply WP_seq | apply WP_region))
    (apply wls; exact st_call rfl ent40 rfl (c40 0 _ (by decide)); rintro _ w2 ⟨rfl, hk⟩; have hp := hp.call hk)
    (repeat (first | (with_reducible first | apply wpl_nil | apply thenQ_n | apply thenQ_ret | apply WP_ret) | (apply wlp; apply pv_assign; (first | exact fB rfl | exact fT rfl))))
    exact ret_tmp2 rfl rfl rfl ⟨_, rfl, rfl, hp.keeps⟩
  | true =>
    have hpool : 0 ≤ pool ∧ pool ≤ 60 ∧ isU pool l l.length = true := by
      unfold setB at hB
      simpa [and_assoc] using hB
    (repeat (first | (with_reducible first | apply WP_seq | apply WP_region | apply wpl_nil | apply thenQ_n) | (apply wlp; ((first | apply pv_move | apply pv_assign | apply pv_not) <;> exact rfl); exact fB rfl)))
    refine WP_cond_f rfl ?_
    (repeat (with_reducible first | apply WP_seq | apply WP_region | apply thenQ_n | apply WP_skip))
    (apply wls; exact st_call rfl ent40 rfl (c40 0 _ (by decide)); rintro _ w2 ⟨rfl, hk⟩; have hp := hp.call hk)
    (repeat (first | (with_reducible first | apply WP_seq | apply WP_block | apply WP_region | apply wpl_nil | apply thenQ_n) | (apply wlp; apply pv_assign; (first | exact fI rfl | exact fT rfl))))
    refine WP_loopS [7, 8, 9, 10, 18, 19, 20, 21, 22, 23, 24, 25, 26, 27, 28, 29, 30, 31, 32, 33, 34, 35, 36, 37, 38, 39, 40, 41, 42, 43, 44, 45, 46, 47, 48] (fun (i : Nat) F => ((F.put 9 (.int .i64 (i : Int))).put 7 (.string (ofN (rkN pool l i)))).put 8 (.int .i64 (if i = 0 then 0 else l.getD (i - 1) 0)))
      (fun i w' => i ≤ l.length ∧ RB (rkN pool l i) (if i = 0 then 0 else l.getD (i - 1) 0) ∧ Hp w [] w' []) (fun i => l.length - i) 0 (put_self (put_self (put_self (Same.eq .refl) rfl) rfl) rfl) ⟨Nat.zero_le _, RB.zero _, hp⟩ ?_
    clear hp
    rintro u i w3 ⟨hi, hrk, hp⟩
    (repeat (first | (with_reducible first | apply WP_seq | apply WP_region | apply wpl_nil | apply thenQ_n) | (apply wlp; ((first | apply pv_move | (apply pf_len; exact rfl) | apply pv_lss) <;> exact rfl); (first | exact fI rfl | exact fB rfl | exact fS rfl))))
    refine WP_cond_d rfl (fun h2 => ?_) (fun h2 => ?_)
    · have hlt : i < l.length := by omega
      obtain ⟨b0, o0, hs0, hc0⟩ := hs.base (by omega)
      have hci := hc0 i _ (List.getElem?_eq_getElem hlt) 0 _ rfl
      have hgi := getD_at hlt
      have hsx : rkN pool l (i + 1) = rkN pool l i + innS pool (if i = 0 then 0 else l.getD (i - 1) 0) ((l.length : Int) - i - 1) (l.getD i 0 - (if i = 0 then 0 else l.getD (i - 1) 0) - 1).toNat := rfl
      have hok := isU_at hpool.2.2 hlt
      have hprev : 0 ≤ (if i = 0 then 0 else l.getD (i - 1) 0) ∧ (if i = 0 then 0 else l.getD (i - 1) 0) < l.getD i 0 ∧ l.getD i 0 ≤ pool := by
        unfold okAt at hok
        by_cases hi0 : i = 0
        · subst hi0
          simp at hok ⊢
          omega
        · have hok2 := isU_at hpool.2.2 (j := i - 1) (by omega)
          unfold okAt at hok2
          simp [hi0] at hok hok2 ⊢
          omega
      rw [hgi] at hprev
      rw [hgi] at hsx
      generalize (if i = 0 then 0 else l.getD (i - 1) 0) = b at *
      have hgi2 : (if i + 1 = 0 then 0 else l.getD (i + 1 - 1) 0) = l[i] := by simpa using hgi
      generalize l[i] = li at *
      have hci : w.cell? ⟨b0, o0 + i * 1, none⟩ = some (.int .i64 li) := hci
      obtain ⟨h0b, hbl, hlp⟩ := hprev
      (repeat (first | (with_reducible first | apply WP_seq | apply WP_block | apply WP_region | apply thenQ_n | apply WP_skip) | (apply wlp; apply pv_move; exact fI rfl)))
      (apply wlp; exact pv_add rfl rfl; exact int_eq (i64_in (by omega) (by omega)))
      (repeat (first | (with_reducible first | apply WP_block | apply wpl_nil | apply thenQ_n) | (apply wlp; apply pv_assign; exact fI rfl)))
      refine WP_loopS [7, 10, 26, 27, 28, 29, 30, 31, 32, 33, 34, 35, 36, 37, 38, 39, 40, 41, 42, 43, 44] (fun (t : Nat) F => (F.put 7 (.string (ofN (rkN pool l i + innS pool b ((l.length : Int) - i - 1) t)))).put 10 (.int .i64 (b + 1 + t)))
        (fun t w' => b + t + 1 ≤ li ∧ Hp w [] w' []) (fun t => (li - b).toNat - t) 0 (put_self (put_self (Same.eq .refl) rfl) (int_eq (by omega))) ⟨by omega, hp⟩ ?_
      clear hp
      rintro u2 t w4 ⟨ht, hp⟩
      (repeat (first | (with_reducible first | apply WP_seq | apply WP_region | apply wpl_nil | apply thenQ_n) | (apply wlp; ((first | apply pv_move | (apply pf_load; exact rfl) | apply pv_lss | (apply pf_index; exact rfl)) <;> (first | exact rfl | assumption | exact hp.old0 (by assumption))); (first | exact fI rfl | exact fB rfl | exact fP rfl | exact fS rfl))))
      refine WP_cond_d rfl (fun h3 => ?_) (fun h3 => ?_)
      · have hfit : Fit (rkN pool l i + innS pool b ((l.length : Int) - i - 1) t) := hrk.fit hpool.2.1 h0b (by omega)
        have hfit2 : Fit (chZ (pool - (b + 1 + t)) ((l.length : Int) - i - 1)) := Fit.of (k := 61) (Nat.lt_of_le_of_lt (chZ_le (by omega)) (by decide)) (by decide)
        have hstep : innS pool b ((l.length : Int) - i - 1) (t + 1) = innS pool b ((l.length : Int) - i - 1) t + chZ (pool - (b + 1 + t)) ((l.length : Int) - i - 1) := by
          rw [innS]
          congr 2
          omega
        (repeat (first | (with_reducible first | apply WP_seq | apply WP_block | apply WP_region | apply thenQ_n | apply WP_skip) | (apply wlp; apply pv_move; (first | exact fI rfl | exact fT rfl))))
        (apply wlp; exact pv_sub rfl rfl; exact int_eq (i64_in (by omega) (by omega)))
        (repeat (apply wlp; ((first | apply pv_move | (apply pf_len; exact rfl)) <;> exact rfl); (first | exact fI rfl | exact fS rfl)))
        (apply wlp; exact pv_sub rfl rfl; exact int_eq (i64_in (by omega) (by omega)))
        (apply wlp; exact pv_sub rfl rfl; exact int_eq (i64_in (by omega) (by omega)))
        (apply wls; exact st_call rfl ent14 rfl (c14 (pool - (b + 1 + t)) ((l.length : Int) - i - 1) _ (by omega)); rintro _ w5 ⟨rfl, hk⟩; have hp := hp.call hk)
        (apply wls; exact st_call rfl ent41 rfl (c41 _ _ _ hfit hfit2); rintro _ w6 ⟨rfl, hk⟩; have hp := hp.call hk)
        rw [Nat.add_assoc, ← hstep]
        (repeat (first | (with_reducible first | apply WP_region | apply wpl_nil | apply thenQ_n | apply inBlk_n) | (apply wlp; (first | apply pv_move | apply pv_assign); (first | exact fI rfl | exact fT rfl))))
        (apply wlp; exact pv_add rfl rfl; exact int_eq (i64_in (by omega) (by omega)))
        (repeat (first | (with_reducible first | apply wpl_nil | apply thenQ_n) | (apply wlp; apply pv_assign; exact fI rfl)))
        exact ⟨t + 1, put_self (put_self (Same.eq (by repeat (first | exact Same.hav | exact Same.refl | refine Same.put rfl ?_ | refine Same.havs rfl ?_))) rfl) (int_eq (by omega)), ⟨by omega, hp⟩, by omega⟩
      · have ht2 : t = (li - b - 1).toNat := by omega
        rw [ht2, ← hsx]
        (repeat (first | (with_reducible first | apply WP_region | apply wpl_nil | apply thenQ_n | apply inBlk_n | apply thenQ_exit | apply WP_exit) | ((with_reducible apply inBlk_same); exact rfl) | (apply wlp; ((first | apply pv_move | apply pv_assign | (apply pf_load; exact rfl) | (apply pf_index; exact rfl)) <;> (first | exact rfl | assumption | exact hp.old0 (by assumption))); (first | exact fI rfl | exact fP rfl | exact fS rfl))))
        (apply wlp; exact pv_add rfl rfl; exact int_eq (i64_in (by omega) (by omega)))
        (repeat (first | (with_reducible first | apply wpl_nil | apply thenQ_n) | (apply wlp; apply pv_assign; exact fI rfl)))
        refine ⟨i + 1, put_self (put_self (put_self (Same.eq (by repeat (first | exact Same.hav | exact Same.refl | refine Same.put rfl ?_ | refine Same.havs rfl ?_))) rfl) rfl) (int_eq hgi2.symm), ⟨by omega, ?_, hp⟩, by omega⟩
        rw [hgi2, hsx, ← ht2]
        exact hrk.next hpool.2.1 h0b (by omega)
    · obtain rfl : i = l.length := by omega
      (repeat (first | (with_reducible first | apply WP_seq | apply WP_region | apply wpl_nil | apply thenQ_n | apply thenQ_exit | apply WP_ret | apply WP_exit) | ((with_reducible apply inBlk_same); exact rfl) | (apply wlp; (first | apply pv_move | apply pv_assign); (first | exact fB rfl | exact fT rfl))))
      exact ret_tmp2 rfl rfl rfl ⟨_, rfl, rfl, hp.keeps⟩
end Go.Proofs.YteklkjnhefnimaaDoor
/- sortesref18: Unrank; conditions: the rank is short. -/
namespace Go.Proofs.YteklkjnhefnimaaDoor
open Go.Eng Go.Dig

attribute [local irreducible] PV StepF wpl wpd WP Ret
attribute [local irreducible] Fit RB

theorem c20 (pool pick : Int) (n : Nat) (w : World) (hn : Fit n) :
    Ret Tryd.prog 20 [.int .i64 pool, .int .i64 pick, .string (ofN n)] w (fun v w' => ∃ s c, v = .tuple #[.slice s (unZ pool pick n).length c, .bool (unB pool pick n)] ∧ SVL s c (unZ pool pick n) ∧ Hp w [] w' [ownL eI 3 1 s c (unZ pool pick n)]) := by
  have hno : unB pool pick n = false → unZ pool pick n = [] := fun h => by unfold unZ; rw [h]; rfl
  refine Ret.of_WP Tryd.func20 rfl Tryd.ntmps20 rfl ?_
  have hp := (Hp.start (M := []) (w := w)).nilL eI 3 1
  (repeat (with_reducible first | apply WP_seq | apply WP_region))
  (apply wlp; exact pv_assign; exact rfl)
  (apply wlp; exact pv_assign; exact fB rfl)
  (repeat (with_reducible first | apply WP_seq | apply WP_region | apply wpl_nil | apply thenQ_n))
  (apply wlp; exact pv_move; exact fI rfl)
  by_cases h0 : pool < 0
  · have hB : unB pool pick n = false := by unfold unB; rw [decide_eq_false (show ¬ 0 ≤ pool by omega)]; rfl
    rw [hB, hno hB]
    (apply wlp; (exact pv_lss rfl rfl); exact bool_eq (b := true) (decide_eq_true (by omega)))
    (repeat (first | (with_reducible first | apply wpl_nil | apply thenQ_n) | (apply wlp; (intros; (first | apply pv_move | exact pv_orT rfl)); (intros; exact fB rfl)) | (apply wlpF; exact rfl; exact rfl; exact rfl) | (apply wlpU; exact rfl; exact rfl)))
    refine WP_cond_t rfl ?_
    (repeat (first | (with_reducible first | apply WP_seq | apply WP_region | apply wpl_nil | apply thenQ_n | apply thenQ_ret | apply WP_ret) | (apply wlp; apply pv_assign; (first | exact fB rfl | exact fS rfl))))
    exact ret_tmp2 rfl rfl rfl ⟨_, rfl, none, 0, rfl, SVL.nil, hp⟩
  by_cases h60 : 60 < pool
  · have hB : unB pool pick n = false := by unfold unB; rw [decide_eq_false (show ¬ pool ≤ 60 by omega)]; simp
    rw [hB, hno hB]
    (apply wlp; (exact pv_lss rfl rfl); exact bool_eq (b := false) (decide_eq_false (by omega)))
    (apply wlp; exact pv_move; exact fB rfl)
    (apply wlpT; exact rfl; exact rfl; exact pv_move; exact fI rfl)
    (apply wlpT; exact rfl; exact rfl; (exact pv_gtr rfl rfl); exact bool_eq (b := true) (decide_eq_true (by omega)))
    (repeat (first | (with_reducible first | apply wpl_nil | apply thenQ_n) | (apply wlp; (intros; (first | apply pv_move | exact pv_orT rfl | exact pv_orF rfl rfl)); (intros; exact fB rfl)) | (apply wlpF; exact rfl; exact rfl; exact rfl) | (apply wlpU; exact rfl; exact rfl)))
    refine WP_cond_t rfl ?_
    (repeat (first | (with_reducible first | apply WP_seq | apply WP_region | apply wpl_nil | apply thenQ_n | apply thenQ_ret | apply WP_ret) | (apply wlp; apply pv_assign; (first | exact fB rfl | exact fS rfl))))
    exact ret_tmp2 rfl rfl rfl ⟨_, rfl, none, 0, rfl, SVL.nil, hp⟩
  by_cases hk0 : pick < 0
  · have hB : unB pool pick n = false := by unfold unB; rw [chZ_zero (Or.inr (Or.inr (Or.inl hk0)))]; simp
    rw [hB, hno hB]
    (apply wlp; (exact pv_lss rfl rfl); exact bool_eq (b := false) (decide_eq_false (by omega)))
    (apply wlp; exact pv_move; exact fB rfl)
    (apply wlpT; exact rfl; exact rfl; exact pv_move; exact fI rfl)
    (apply wlpT; exact rfl; exact rfl; (exact pv_gtr rfl rfl); exact bool_eq (b := false) (decide_eq_false (by omega)))
    (apply wlp; exact pv_orF rfl rfl; exact fB rfl)
    (apply wlp; exact pv_move; exact fB rfl)
    (apply wlpT; exact rfl; exact rfl; exact pv_move; exact fI rfl)
    (apply wlpT; exact rfl; exact rfl; (exact pv_lss rfl rfl); exact bool_eq (b := true) (decide_eq_true (by omega)))
    (repeat (first | (with_reducible first | apply wpl_nil | apply thenQ_n) | (apply wlp; (intros; (first | apply pv_move | exact pv_orT rfl | exact pv_orF rfl rfl)); (intros; exact fB rfl)) | (apply wlpF; exact rfl; exact rfl; exact rfl) | (apply wlpU; exact rfl; exact rfl)))
    refine WP_cond_t rfl ?_
    (repeat (first | (with_reducible first | apply WP_seq | apply WP_region | apply wpl_nil | apply thenQ_n | apply thenQ_ret | apply WP_ret) | (apply wlp; apply pv_assign; (first | exact fB rfl | exact fS rfl))))
    exact ret_tmp2 rfl rfl rfl ⟨_, rfl, none, 0, rfl, SVL.nil, hp⟩
  have hfc : Fit (chZ pool pick) := Fit.of (k := 61) (Nat.lt_of_le_of_lt (chZ_le (by omega)) (by decide)) (by decide)
  have hBc : unB pool pick n = decide (n < chZ pool pick) := by
    unfold unB
    rw [decide_eq_true (show 0 ≤ pool by omega), decide_eq_true (show pool ≤ 60 by omega)]
    rfl
  (apply wlp; (exact pv_lss rfl rfl); exact bool_eq (b := false) (decide_eq_false (by omega)))
  (apply wlp; exact pv_move; exact fB rfl)
  (apply wlpT; exact rfl; exact rfl; exact pv_move; exact fI rfl)
  (apply wlpT; exact rfl; exact rfl; (exact pv_gtr rfl rfl); exact bool_eq (b := false) (decide_eq_false (by omega)))
  (apply wlp; exact pv_orF rfl rfl; exact fB rfl)
  (apply wlp; exact pv_move; exact fB rfl)
  (apply wlpT; exact rfl; exact rfl; exact pv_move; exact fI rfl)
  (apply wlpT; exact rfl; exact rfl; (exact pv_lss rfl rfl); exact bool_eq (b := false) (decide_eq_false (by omega)))
  (repeat (first | (apply wlp; (intros; (first | apply pv_move | exact pv_orF rfl rfl)); (intros; (first | exact fI rfl | exact fB rfl | exact fT rfl))) | ((apply wlpT; exact rfl; exact rfl); ((first | apply pv_move | exact pv_orF rfl rfl)); (intros; (first | exact fI rfl | exact fB rfl | exact fT rfl))) | (apply wlpF; exact rfl; exact rfl; exact rfl) | (apply wlpU; exact rfl; exact rfl)))
  (apply wlsT; exact rfl; exact rfl; exact st_call rfl ent14 rfl (c14 pool pick _ (by omega)); rintro _ w3 ⟨rfl, hk⟩; have hp := hp.call hk)
  (apply wlsT; exact rfl; exact rfl; exact st_call rfl ent50 rfl (c50 n (chZ pool pick) _ hn hfc); rintro _ w4 ⟨rfl, hk⟩; have hp := hp.call hk)
  by_cases hlt : n < chZ pool pick
  · rw [if_pos hlt]
    (repeat (first | (with_reducible first | apply wpl_nil | apply thenQ_n) | (apply wlp; (intros; ((first | exact pv_orF rfl rfl | apply pv_geq) <;> exact rfl)); (intros; exact fB rfl)) | ((apply wlpT; exact rfl; exact rfl); (((first | exact pv_orF rfl rfl | apply pv_geq) <;> exact rfl)); (intros; exact fB rfl)) | (apply wlpF; exact rfl; exact rfl; exact rfl) | (apply wlpU; exact rfl; exact rfl)))
    refine WP_cond_f rfl ?_
    have hB : unB pool pick n = true := by rw [hBc]; exact decide_eq_true hlt
    have hZ : unZ pool pick n = un pool.toNat pool.toNat pick.toNat n := by unfold unZ; rw [if_pos hB]
    rw [hB, hZ]
    have hpk : 0 ≤ pick ∧ pick ≤ pool := by
      by_cases hc : pool < 0 ∨ pool > 1000 ∨ pick < 0 ∨ pick > pool
      · rw [chZ_zero hc] at hlt; omega
      · omega
    obtain ⟨N, rfl⟩ : ∃ N : Nat, pool = N := ⟨pool.toNat, by omega⟩
    obtain ⟨K, rfl⟩ : ∃ K : Nat, pick = K := ⟨pick.toNat, by omega⟩
    rw [chZ_nat (by omega)] at hlt
    simp only [Int.toNat_natCast]
    (repeat (with_reducible first | apply WP_seq | apply WP_region | apply thenQ_n | apply WP_skip))
    (apply wlp; exact pv_assign; exact rfl)
    (repeat (first | (with_reducible first | apply WP_seq | apply WP_block | apply WP_region | apply wpl_nil | apply thenQ_n) | (apply wlp; apply pv_assign; exact fI rfl)))
    refine WP_loop5 [2, 8, 9, 10, 29, 30, 31, 32, 33, 34, 35, 36, 37, 38, 39, 40, 41, 42, 43, 44, 45, 46, 47, 48, 49, 50, 51, 52, 53, 54, 55, 56, 57] (fun (P : Nat) (r : Nat) (l : List Int) (st : Option Addr) (ct : Nat) F => ((F.put 9 (.int .i64 ((N : Int) - P + 1))).put 8 (.slice st l.length ct)).put 2 (.string (ofN r)))
      (fun P r l st ct w' => P ≤ N ∧ l.length ≤ K ∧ r ≤ n ∧ r < ch P (K - l.length) ∧ l ++ un N P (K - l.length) r = un N N K n ∧ SVL st ct l ∧ Hp w [] w' [ownL eI 3 1 st ct l])
      (fun P _ _ _ _ => P) N n [] none 0 (put_self (put_self (put_self (Same.eq .refl) (int_eq (by omega))) rfl) rfl) ⟨Nat.le_refl _, Nat.zero_le _, Nat.le_refl _, hlt, rfl, SVL.nil, hp⟩ ?_
    clear hp
    rintro u P r l st ct w8 ⟨hP, hlK, hrn, hrc, hl, hv, hp⟩
    (repeat (first | (with_reducible first | apply WP_seq | apply WP_region | apply wpl_nil | apply thenQ_n) | (apply wlp; ((first | apply pv_move | (apply pf_len; exact rfl) | apply pv_lss) <;> exact rfl); (first | exact fI rfl | exact fB rfl | exact fS rfl))))
    refine WP_cond_d rfl (fun h3 => ?_) (fun h3 => ?_)
    · obtain ⟨m, hm⟩ : ∃ m', K - l.length = m' + 1 := ⟨K - l.length - 1, by omega⟩
      rw [hm] at hrc hl
      obtain ⟨P, rfl⟩ : ∃ P', P = P' + 1 := by
        cases P with
        | zero => simp [ch] at hrc
        | succ P => exact ⟨P, rfl⟩
      have ev : (N : Int) - ((P + 1 : Nat) : Int) + 1 = ((N - P : Nat) : Int) := by omega
      rw [ev]
      rw [un] at hl
      rw [ch] at hrc
      have hch : chZ (P : Int) (m : Int) = ch P m := chZ_nat (by omega)
      have hfp : Fit (ch P m) := ch_fit (by omega)
      (repeat (with_reducible first | apply WP_seq | apply WP_block | apply WP_region | apply thenQ_n | apply WP_skip))
      (apply wlp; exact pv_move; exact fI rfl)
      (apply wlp; exact pv_move; exact fI rfl)
      (apply wlp; (exact pv_sub rfl rfl); exact int_eq (b := ((P : Nat) : Int)) (by rw [i64_in (by omega) (by omega)]; omega))
      (repeat (apply wlp; ((first | apply pv_move | (apply pf_len; exact rfl)) <;> exact rfl); (first | exact fI rfl | exact fS rfl)))
      (apply wlp; (exact pv_sub rfl rfl); exact int_eq (b := ((m + 1 : Nat) : Int)) (by rw [i64_in (by omega) (by omega)]; omega))
      (apply wlp; (exact pv_sub rfl rfl); exact int_eq (b := ((m : Nat) : Int)) (by rw [i64_in (by omega) (by omega)]; omega))
      (apply wls; exact st_call rfl ent14 rfl (c14 (P : Int) (m : Int) _ (by omega)))
      rintro _ w9 ⟨rfl, hk⟩
      have hp := hp.call hk
      rw [hch]
      (repeat (first | (with_reducible first | apply WP_seq | apply WP_region | apply wpl_nil | apply thenQ_n) | (apply wlp; (first | apply pv_move | apply pv_assign); exact fT rfl)))
      (apply wls; exact st_call rfl ent50 rfl (c50 r (ch P m) _ (hn.le hrn) hfp))
      rintro _ w10 ⟨rfl, hk⟩
      have hp := hp.call hk
      by_cases hc : r < ch P m
      · rw [if_pos hc] at hl
        rw [if_pos hc]
        (repeat (first | (with_reducible first | apply wpl_nil | apply thenQ_n) | (apply wlp; (apply pv_lss <;> exact rfl); exact fB rfl)))
        refine WP_cond_t rfl ?_
        (repeat (first | with_reducible apply WP_region | (apply wlp; apply pv_move; (first | exact fI rfl | exact fS rfl))))
        (apply wls; exact sf_slice hp rfl rfl rfl rfl rfl rfl rfl; rintro _ w11 ⟨nb, rfl, hp⟩)
        (apply wls; exact sf_app1 eI l ((N - P : Nat) : Int) hp 1 0 rfl rfl rfl rfl rfl rfl (fun _ => rfl) rfl rfl rfl hv rfl rfl (by omega); rintro _ w12 ⟨s', c', rfl, hv', hp⟩)
        have hp := hp.tail
        have hm2 : K - (l ++ [((N - P : Nat) : Int)]).length = m := by simp; omega
        (repeat (first | (with_reducible first | apply WP_region | apply wpl_nil | apply thenQ_n) | (apply wlp; (first | apply pv_move | apply pv_assign); (first | exact fI rfl | exact fS rfl))))
        (apply wlp; exact pv_add rfl rfl; exact int_eq (i64_in (by omega) (by omega)))
        (repeat (first | (with_reducible first | apply wpl_nil | apply thenQ_n | apply inBlk_n) | (apply wlp; apply pv_assign; exact fI rfl)))
        exact ⟨P, r, _, s', c', put_self (put_self (put_self (Same.eq (by repeat (first | exact Same.hav | exact Same.refl | refine Same.put rfl ?_ | refine Same.havs rfl ?_))) (int_eq (by omega))) rfl) rfl, ⟨by omega, by simp; omega, hrn, by rw [hm2]; exact hc, by rw [hm2, List.append_assoc]; exact hl, hv', hp⟩, by omega⟩
      · rw [if_neg hc] at hl
        (apply wlp; exact pv_lss rfl rfl; exact bool_eq (b := false) (decide_eq_false (by rw [if_neg hc]; split <;> omega)))
        (repeat (with_reducible first | apply wpl_nil | apply thenQ_n))
        refine WP_cond_f rfl ?_
        (repeat (first | with_reducible apply WP_region | (apply wlp; apply pv_move; exact fT rfl)))
        (apply wls; exact st_call rfl ent51 rfl (c51 r (ch P m) _ (hn.le hrn) hfp))
        rintro _ w11 ⟨rfl, hk⟩
        have hp := hp.call hk
        (repeat (first | (with_reducible first | apply WP_region | apply wpl_nil | apply thenQ_n) | (apply wlp; ((first | apply pv_move | apply pv_assign | apply pv_extract) <;> exact rfl); (first | exact fI rfl | exact fB rfl | exact fT rfl | exact fU rfl))))
        (apply wlp; exact pv_add rfl rfl; exact int_eq (i64_in (by omega) (by omega)))
        (repeat (first | (with_reducible first | apply wpl_nil | apply thenQ_n | apply inBlk_n) | (apply wlp; apply pv_assign; exact fI rfl)))
        exact ⟨P, r - ch P m, l, st, ct, put_self (put_self (put_self (Same.eq (by repeat (first | exact Same.hav | exact Same.refl | refine Same.put rfl ?_ | refine Same.havs rfl ?_))) (int_eq (by omega))) rfl) rfl, ⟨by omega, hlK, by omega, by rw [hm]; omega, by rw [hm]; exact hl, hv, hp⟩, by omega⟩
    · rw [show K - l.length = 0 from by omega, un_zero, List.append_nil] at hl
      subst hl
      (repeat (first | (with_reducible first | apply WP_seq | apply WP_region | apply wpl_nil | apply thenQ_n | apply thenQ_exit | apply WP_ret | apply WP_exit) | ((with_reducible apply inBlk_same); exact rfl) | (apply wlp; (first | apply pv_move | apply pv_assign); (first | exact fB rfl | exact fS rfl))))
      exact ret_tmp2 rfl rfl rfl ⟨_, rfl, st, ct, rfl, hv, hp⟩
  · have hB : unB pool pick n = false := by rw [hBc]; exact decide_eq_false hlt
    rw [hB, hno hB]
    (apply wlpT; exact rfl; exact rfl; exact pv_geq rfl rfl; exact bool_eq (b := true) (decide_eq_true (by rw [if_neg hlt]; split <;> omega)))
    (repeat (first | (with_reducible first | apply wpl_nil | apply thenQ_n) | (apply wlp; (intros; exact pv_orF rfl rfl); (intros; exact fB rfl)) | (apply wlpF; exact rfl; exact rfl; exact rfl) | (apply wlpU; exact rfl; exact rfl)))
    refine WP_cond_t rfl ?_
    (repeat (first | (with_reducible first | apply WP_seq | apply WP_region | apply wpl_nil | apply thenQ_n | apply thenQ_ret | apply WP_ret) | (apply wlp; apply pv_assign; (first | exact fB rfl | exact fS rfl))))
    exact ret_tmp2 rfl rfl rfl ⟨_, rfl, none, 0, rfl, SVL.nil, hp⟩
end Go.Proofs.YteklkjnhefnimaaDoor
/- Printed by gen_ia.py. OddsChoose. -/
namespace Go.Proofs.YteklkjnhefnimaaDoor
open Go.Eng Go.Dig

theorem emod_of1 {n m : Int} (hm : 0 < m) : (n.tmod m + m).tmod m = n % m ∧ 0 ≤ n.tmod m + m ∧ n.tmod m + m < 2 * m := by
  have h1 := Int.tmod_lt_of_pos n hm
  have h2 := Int.lt_tmod_of_pos n hm
  refine ⟨?_, by omega, by omega⟩
  rw [Int.tmod_eq_emod_of_nonneg (by omega), Int.add_emod_right]
  conv => rhs; rw [← Int.mul_tdiv_add_tmod n m]
  rw [Int.add_comm, Int.add_mul_emod_self_left]
theorem chZ_pas {a b : Nat} (h : a ≤ 999) : chZ ((a : Int) + 1) ((b : Int) + 1) = chZ a b + chZ a ((b : Int) + 1) := by
  have h1 := chZ_nat (n := a + 1) (k := b + 1) (by omega)
  have h2 := chZ_nat (n := a) (k := b) (by omega)
  have h3 := chZ_nat (n := a) (k := b + 1) (by omega)
  rw [Int.natCast_add] at h1
  rw [Int.natCast_add] at h1 h3
  rw [show ((a : Int) + 1) = (a : Int) + ((1 : Nat) : Int) from rfl, show ((b : Int) + 1) = (b : Int) + ((1 : Nat) : Int) from rfl, h1, h2, h3, ch_pascal]
theorem chZ_prod {a b : Nat} (h : a ≤ 1000) (hb : b ≤ a) : fact a = chZ a b * (fact b * fact (a - b)) := by
  rw [chZ_nat h, ← Nat.mul_assoc, ch_fact a b hb]
theorem sneF {m n : Nat} (h : m = n) : (!decide (ofN m = ofN n)) = false := by rw [ofN_eq, decide_eq_true h]; rfl
theorem seqT {m n : Nat} (h : m = n) : decide (ofN m = ofN n) = true := by rw [ofN_eq, decide_eq_true h]
theorem ff_fit {a b : Nat} (ha : a ≤ 100) (hb : b ≤ 100) : Fit (fact b * fact (a - b)) := by
  by_cases h : b ≤ a
  · refine (fact_fit (n := a) (by omega)).le ?_
    rw [← ch_fact a b h, Nat.mul_assoc]
    exact Nat.le_mul_of_pos_left _ (ch_pos h)
  · rw [show a - b = 0 from by omega, show fact 0 = 1 from rfl, Nat.mul_one]
    exact fact_fit (by omega)
theorem chZ_fit {a b : Nat} (ha : a ≤ 100) : Fit (chZ a b) := by
  rw [chZ_nat (by omega)]
  exact ch_fit (by omega)

attribute [local irreducible] PV StepF wpl wpd WP Ret
attribute [local irreducible] Fit RB ofN chZ fact

theorem c3 (n k : Int) (w : World) : Ret Tryd.prog 3 [.int .i64 n, .int .i64 k] w (fun v w' => v = .bool true ∧ Keeps [] w w') := by
  have e1 := emod_of1 (n := n) (m := 70) (by decide)
  have e2 := emod_of1 (n := k) (m := 70) (by decide)
  have g1 := Int.emod_nonneg n (show (70 : Int) ≠ 0 by decide)
  have g2 := Int.emod_lt_of_pos n (show (0 : Int) < 70 by decide)
  have g3 := Int.emod_nonneg k (show (70 : Int) ≠ 0 by decide)
  have g4 := Int.emod_lt_of_pos k (show (0 : Int) < 70 by decide)
  obtain ⟨a, ha⟩ : ∃ a : Nat, n % 70 = a := ⟨(n % 70).toNat, by omega⟩
  obtain ⟨b, hb⟩ : ∃ b : Nat, k % 70 = b := ⟨(k % 70).toNat, by omega⟩
  rw [ha] at e1 g1 g2
  rw [hb] at e2 g3 g4
  clear ha hb
  have hpa := chZ_pas (a := a) (b := b) (by omega)
  have hpr := chZ_prod (a := a) (b := b) (by omega)
  have hfc : Fit (chZ a b) := chZ_fit (by omega)
  have hfd : Fit (chZ a ((b : Int) + 1)) := chZ_fit (b := b + 1) (by omega)
  have hff : Fit (fact b * fact (a - b)) := ff_fit (by omega) (by omega)
  refine Ret.of_WP Tryd.func3 rfl Tryd.ntmps3 rfl ?_
  have hp := Hp.start (M := []) (w := w)
  (repeat (first | (with_reducible first | apply WP_seq | apply WP_region | apply wpl_nil | apply thenQ_n) | (apply wlp; apply pv_assign; exact fB rfl)))
  (apply wls; exact st_call rfl ent11 rfl (c11 _); rintro _ w1 ⟨rfl, hk⟩; have hp := hp.call hk)
  (repeat (first | (with_reducible first | apply WP_seq | apply WP_region | apply wpl_nil | apply thenQ_n) | (apply wlp; (first | apply pv_move | apply pv_assign); (first | exact fI rfl | exact fB rfl))))
  (apply wlp; exact pv_rem rfl rfl (by decide); exact fI rfl)
  (apply wlp; exact pv_add rfl rfl; exact int_eq (i64_in (by omega) (by omega)))
  (apply wlp; exact pv_rem rfl rfl (by decide); exact int_eq e1.1)
  (apply wlp; exact pv_move; exact fI rfl)
  (apply wlp; exact pv_rem rfl rfl (by decide); exact fI rfl)
  (apply wlp; exact pv_add rfl rfl; exact int_eq (i64_in (by omega) (by omega)))
  (apply wlp; exact pv_rem rfl rfl (by decide); exact int_eq e2.1)
  skip
  (apply wlp; exact pv_assign; exact fI rfl)
  (apply wlp; exact pv_assign; exact fI rfl)
  (repeat (with_reducible first | apply WP_seq | apply WP_region | apply wpl_nil | apply thenQ_n))
  (apply wlp; exact pv_move; exact fI rfl)
  by_cases hn : n < 0
  · (apply wlp; (exact pv_lss rfl rfl); exact bool_eq (b := true) (decide_eq_true (by omega)))
    (repeat (first | (apply wlp; (intros; (first | apply pv_move | exact pv_orT rfl)); (intros; (first | exact fI rfl | exact fB rfl))) | ((apply wlpT; exact rfl; exact rfl); ((first | apply pv_move | exact pv_orT rfl)); (intros; (first | exact fI rfl | exact fB rfl))) | (apply wlpF; exact rfl; exact rfl; exact rfl) | (apply wlpU; exact rfl; exact rfl)))
    (apply wlsT; exact rfl; exact rfl; exact st_call rfl ent12 rfl (c12 n k _ (by omega)); rintro _ w15 ⟨rfl, hk⟩; have hp := hp.call hk)
    (apply wlsT; exact rfl; exact rfl; exact st_call rfl ent13 rfl (c13 0 _ (by decide)); rintro _ w16 ⟨rfl, hk⟩; have hp := hp.call hk)
    (apply wlpT; exact rfl; exact rfl; exact pv_sneq rfl rfl; exact bool_eq (b := false) (sneF (m := chZ n k) (n := (0 : Int).toNat) (chZ_zero (by omega))))
    (repeat (first | (apply wlp; (intros; (first | apply pv_move | exact pv_andT rfl rfl)); (intros; (first | exact fI rfl | exact fB rfl))) | ((apply wlpT; exact rfl; exact rfl); ((first | apply pv_move | exact pv_andT rfl rfl)); (intros; (first | exact fI rfl | exact fB rfl))) | (apply wlpF; exact rfl; exact rfl; exact rfl) | (apply wlpU; exact rfl; exact rfl)))
    (apply wlsT; exact rfl; exact rfl; exact st_call rfl ent12 rfl (c12 a b _ (by omega)); rintro _ w11 ⟨rfl, hk⟩; have hp := hp.call hk)
    (repeat (first | ((apply wlpT; exact rfl; exact rfl); (apply pv_move); (intros; exact fI rfl)) | (apply wlpF; exact rfl; exact rfl; exact rfl) | (apply wlpU; exact rfl; exact rfl)))
    (apply wlsT; exact rfl; exact rfl; exact st_call rfl ent14 rfl (c14 a b _ (by omega)); rintro _ w12 ⟨rfl, hk⟩; have hp := hp.call hk)
    (apply wlpT; exact rfl; exact rfl; exact pv_sneq rfl rfl; exact bool_eq (b := false) (sneF (m := chZ a b) (n := chZ a b) (rfl)))
    (repeat (first | (apply wlp; (intros; (first | apply pv_move | exact pv_orF rfl rfl)); (intros; (first | exact fI rfl | exact fB rfl))) | ((apply wlpT; exact rfl; exact rfl); ((first | apply pv_move | exact pv_orF rfl rfl)); (intros; (first | exact fI rfl | exact fB rfl))) | (apply wlpF; exact rfl; exact rfl; exact rfl) | (apply wlpU; exact rfl; exact rfl)))
    (apply wlsT; exact rfl; exact rfl; exact st_call rfl ent15 rfl (c15 a _ (by omega)); rintro _ w13 ⟨rfl, hk⟩; have hp := hp.call hk)
    (repeat (first | ((apply wlpT; exact rfl; exact rfl); (apply pv_move); (intros; exact fI rfl)) | (apply wlpF; exact rfl; exact rfl; exact rfl) | (apply wlpU; exact rfl; exact rfl)))
    (apply wlsT; exact rfl; exact rfl; exact st_call rfl ent16 rfl (c16 a _ (by omega)); rintro _ w14 ⟨rfl, hk⟩; have hp := hp.call hk)
    (apply wlpT; exact rfl; exact rfl; exact pv_sneq rfl rfl; exact bool_eq (b := false) (sneF (m := fact a) (n := fact a) (rfl)))
    (apply wlp; exact pv_orF rfl rfl; exact fB rfl)
    (apply wlp; exact pv_move; exact fB rfl)
    (apply wlpT; exact rfl; exact rfl; exact pv_move; exact fI rfl)
    (apply wlpT; exact rfl; exact rfl; (exact pv_lss rfl rfl); exact bool_eq (b := true) (decide_eq_true (by omega)))
    (repeat (first | ((apply wlpT; exact rfl; exact rfl); ((first | apply pv_move | exact pv_orT rfl)); (intros; (first | exact fI rfl | exact fB rfl))) | (apply wlpF; exact rfl; exact rfl; exact rfl) | (apply wlpU; exact rfl; exact rfl)))
    (apply wlsT; exact rfl; exact rfl; exact st_call rfl ent15 rfl (c15z n _ (by omega)); rintro _ w17 ⟨rfl, hk⟩; have hp := hp.call hk)
    (apply wlsT; exact rfl; exact rfl; exact st_call rfl ent13 rfl (c13 0 _ (by decide)); rintro _ w18 ⟨rfl, hk⟩; have hp := hp.call hk)
    (apply wlpT; exact rfl; exact rfl; exact pv_sneq rfl rfl; exact bool_eq (b := false) (sneF (m := 0) (n := (0 : Int).toNat) (rfl)))
    (repeat (first | (with_reducible first | apply wpl_nil | apply thenQ_n) | (apply wlp; (intros; (first | exact pv_andT rfl rfl | exact pv_orF rfl rfl)); (intros; exact fB rfl)) | ((apply wlpT; exact rfl; exact rfl); ((first | exact pv_andT rfl rfl | exact pv_orF rfl rfl)); (intros; exact fB rfl)) | (apply wlpF; exact rfl; exact rfl; exact rfl) | (apply wlpU; exact rfl; exact rfl)))
    refine WP_cond_f rfl ?_
    (repeat (with_reducible first | apply WP_seq | apply WP_region | apply thenQ_n | apply WP_skip))
    (apply wlp; exact pv_move; exact fI rfl)
    (apply wlp; exact pv_add rfl rfl; exact int_eq (i64_in (by omega) (by omega)))
    (apply wlp; exact pv_move; exact fI rfl)
    (apply wlp; exact pv_add rfl rfl; exact int_eq (i64_in (by omega) (by omega)))
    (apply wls; exact st_call rfl ent12 rfl (c12 ((a : Int) + 1) ((b : Int) + 1) _ (by omega)); rintro _ w19 ⟨rfl, hk⟩; have hp := hp.call hk)
    (repeat (first | (apply wlp; (intros; apply pv_move); (intros; exact fI rfl)) | (apply wlpF; exact rfl; exact rfl; exact rfl) | (apply wlpU; exact rfl; exact rfl)))
    (apply wls; exact st_call rfl ent12 rfl (c12 a b _ (by omega)); rintro _ w20 ⟨rfl, hk⟩; have hp := hp.call hk)
    (apply wlp; exact pv_move; exact fI rfl)
    (apply wlp; exact pv_move; exact fI rfl)
    (apply wlp; exact pv_add rfl rfl; exact int_eq (i64_in (by omega) (by omega)))
    (apply wls; exact st_call rfl ent12 rfl (c12 a ((b : Int) + 1) _ (by omega)); rintro _ w21 ⟨rfl, hk⟩; have hp := hp.call hk)
    (apply wls; exact st_call rfl ent17 rfl (c17 (chZ a b) (chZ a ((b : Int) + 1)) _ hfc hfd); rintro _ w22 ⟨rfl, hk⟩; have hp := hp.call hk)
    (apply wlp; exact pv_seql rfl rfl; exact bool_eq (b := true) (seqT (m := chZ ((a : Int) + 1) ((b : Int) + 1)) (n := chZ a b + chZ a ((b : Int) + 1)) (hpa)))
    by_cases hba : b ≤ a
    · (apply wlp; exact pv_assign; exact fB rfl)
      (repeat (with_reducible first | apply WP_seq | apply WP_region | apply wpl_nil | apply thenQ_n))
      (apply wlp; exact pv_move; exact fI rfl)
      (apply wlp; exact pv_move; exact fI rfl)
      (apply wlp; (exact pv_gtr rfl rfl); exact bool_eq (b := false) (decide_eq_false (by omega)))
      (repeat (first | (apply wlp; (intros; apply pv_move); (intros; (first | exact fI rfl | exact fB rfl))) | ((apply wlpT; exact rfl; exact rfl); (apply pv_move); (intros; (first | exact fI rfl | exact fB rfl))) | (apply wlpF; exact rfl; exact rfl; exact rfl) | (apply wlpU; exact rfl; exact rfl)))
      (apply wlsT; exact rfl; exact rfl; exact st_call rfl ent15 rfl (c15 a _ (by omega)); rintro _ w23 ⟨rfl, hk⟩; have hp := hp.call hk)
      (repeat (first | ((apply wlpT; exact rfl; exact rfl); (apply pv_move); (intros; exact fI rfl)) | (apply wlpF; exact rfl; exact rfl; exact rfl) | (apply wlpU; exact rfl; exact rfl)))
      (apply wlsT; exact rfl; exact rfl; exact st_call rfl ent12 rfl (c12 a b _ (by omega)); rintro _ w24 ⟨rfl, hk⟩; have hp := hp.call hk)
      (repeat (first | ((apply wlpT; exact rfl; exact rfl); (apply pv_move); (intros; exact fI rfl)) | (apply wlpF; exact rfl; exact rfl; exact rfl) | (apply wlpU; exact rfl; exact rfl)))
      (apply wlsT; exact rfl; exact rfl; exact st_call rfl ent15 rfl (c15 b _ (by omega)); rintro _ w25 ⟨rfl, hk⟩; have hp := hp.call hk)
      (repeat (first | ((apply wlpT; exact rfl; exact rfl); (apply pv_move); (intros; exact fI rfl)) | (apply wlpF; exact rfl; exact rfl; exact rfl) | (apply wlpU; exact rfl; exact rfl)))
      (apply wlpT; exact rfl; exact rfl; (exact pv_sub rfl rfl); exact int_eq (b := ((a - b : Nat) : Int)) (by rw [i64_in (by omega) (by omega)]; omega))
      (apply wlsT; exact rfl; exact rfl; exact st_call rfl ent15 rfl (c15 (a - b) _ (by omega)); rintro _ w26 ⟨rfl, hk⟩; have hp := hp.call hk)
      (apply wlsT; exact rfl; exact rfl; exact st_call rfl ent18 rfl (c18 (fact b) (fact (a - b)) _ (fact_fit (by omega)) (fact_fit (by omega))); rintro _ w27 ⟨rfl, hk⟩; have hp := hp.call hk)
      (apply wlsT; exact rfl; exact rfl; exact st_call rfl ent18 rfl (c18 (chZ a b) (fact b * fact (a - b)) _ hfc hff); rintro _ w28 ⟨rfl, hk⟩; have hp := hp.call hk)
      (apply wlpT; exact rfl; exact rfl; exact pv_seql rfl rfl; exact bool_eq (b := true) (seqT (m := fact a) (n := chZ a b * (fact b * fact (a - b))) (hpr hba)))
      (repeat (first | (with_reducible first | apply WP_seq | apply WP_region | apply wpl_nil | apply thenQ_n | apply WP_ret) | ((first | apply wlp | (apply wlg; exact rfl; exact rfl)); (intros; (first | apply pv_move | apply pv_assign | exact pv_andT rfl rfl | exact pv_orF rfl rfl)); (intros; exact fB rfl))))
      exact ret_tmp rfl rfl ⟨_, rfl, rfl, hp.keeps⟩
    · (apply wlp; exact pv_assign; exact fB rfl)
      (repeat (with_reducible first | apply WP_seq | apply WP_region | apply wpl_nil | apply thenQ_n))
      (apply wlp; exact pv_move; exact fI rfl)
      (apply wlp; exact pv_move; exact fI rfl)
      (apply wlp; (exact pv_gtr rfl rfl); exact bool_eq (b := true) (decide_eq_true (by omega)))
      (repeat (first | (with_reducible first | apply WP_seq | apply WP_region | apply wpl_nil | apply thenQ_n | apply WP_ret) | (apply wlp; (intros; (first | apply pv_move | apply pv_assign | exact pv_orT rfl | exact pv_andT rfl rfl)); (intros; exact fB rfl)) | ((apply wlpT; exact rfl; exact rfl); ((first | apply pv_move | apply pv_assign | exact pv_orT rfl | exact pv_andT rfl rfl)); (intros; exact fB rfl)) | (apply wlpF; exact rfl; exact rfl; exact rfl) | (apply wlpU; exact rfl; exact rfl)))
      exact ret_tmp rfl rfl ⟨_, rfl, rfl, hp.keeps⟩
  · by_cases hm : n > 1000
    · (apply wlp; (exact pv_lss rfl rfl); exact bool_eq (b := false) (decide_eq_false (by omega)))
      (apply wlp; exact pv_move; exact fB rfl)
      (apply wlpT; exact rfl; exact rfl; exact pv_move; exact fI rfl)
      (apply wlpT; exact rfl; exact rfl; (exact pv_gtr rfl rfl); exact bool_eq (b := true) (decide_eq_true (by omega)))
      (repeat (first | (apply wlp; (intros; (first | apply pv_move | exact pv_orF rfl rfl)); (intros; (first | exact fI rfl | exact fB rfl))) | ((apply wlpT; exact rfl; exact rfl); ((first | apply pv_move | exact pv_orF rfl rfl)); (intros; (first | exact fI rfl | exact fB rfl))) | (apply wlpF; exact rfl; exact rfl; exact rfl) | (apply wlpU; exact rfl; exact rfl)))
      (apply wlsT; exact rfl; exact rfl; exact st_call rfl ent12 rfl (c12 n k _ (by omega)); rintro _ w29 ⟨rfl, hk⟩; have hp := hp.call hk)
      (apply wlsT; exact rfl; exact rfl; exact st_call rfl ent13 rfl (c13 0 _ (by decide)); rintro _ w30 ⟨rfl, hk⟩; have hp := hp.call hk)
      (apply wlpT; exact rfl; exact rfl; exact pv_sneq rfl rfl; exact bool_eq (b := false) (sneF (m := chZ n k) (n := (0 : Int).toNat) (chZ_zero (by omega))))
      (repeat (first | (apply wlp; (intros; (first | apply pv_move | exact pv_andT rfl rfl)); (intros; (first | exact fI rfl | exact fB rfl))) | ((apply wlpT; exact rfl; exact rfl); ((first | apply pv_move | exact pv_andT rfl rfl)); (intros; (first | exact fI rfl | exact fB rfl))) | (apply wlpF; exact rfl; exact rfl; exact rfl) | (apply wlpU; exact rfl; exact rfl)))
      (apply wlsT; exact rfl; exact rfl; exact st_call rfl ent12 rfl (c12 a b _ (by omega)); rintro _ w11 ⟨rfl, hk⟩; have hp := hp.call hk)
      (repeat (first | ((apply wlpT; exact rfl; exact rfl); (apply pv_move); (intros; exact fI rfl)) | (apply wlpF; exact rfl; exact rfl; exact rfl) | (apply wlpU; exact rfl; exact rfl)))
      (apply wlsT; exact rfl; exact rfl; exact st_call rfl ent14 rfl (c14 a b _ (by omega)); rintro _ w12 ⟨rfl, hk⟩; have hp := hp.call hk)
      (apply wlpT; exact rfl; exact rfl; exact pv_sneq rfl rfl; exact bool_eq (b := false) (sneF (m := chZ a b) (n := chZ a b) (rfl)))
      (repeat (first | (apply wlp; (intros; (first | apply pv_move | exact pv_orF rfl rfl)); (intros; (first | exact fI rfl | exact fB rfl))) | ((apply wlpT; exact rfl; exact rfl); ((first | apply pv_move | exact pv_orF rfl rfl)); (intros; (first | exact fI rfl | exact fB rfl))) | (apply wlpF; exact rfl; exact rfl; exact rfl) | (apply wlpU; exact rfl; exact rfl)))
      (apply wlsT; exact rfl; exact rfl; exact st_call rfl ent15 rfl (c15 a _ (by omega)); rintro _ w13 ⟨rfl, hk⟩; have hp := hp.call hk)
      (repeat (first | ((apply wlpT; exact rfl; exact rfl); (apply pv_move); (intros; exact fI rfl)) | (apply wlpF; exact rfl; exact rfl; exact rfl) | (apply wlpU; exact rfl; exact rfl)))
      (apply wlsT; exact rfl; exact rfl; exact st_call rfl ent16 rfl (c16 a _ (by omega)); rintro _ w14 ⟨rfl, hk⟩; have hp := hp.call hk)
      (apply wlpT; exact rfl; exact rfl; exact pv_sneq rfl rfl; exact bool_eq (b := false) (sneF (m := fact a) (n := fact a) (rfl)))
      (apply wlp; exact pv_orF rfl rfl; exact fB rfl)
      (apply wlp; exact pv_move; exact fB rfl)
      (apply wlpT; exact rfl; exact rfl; exact pv_move; exact fI rfl)
      (apply wlpT; exact rfl; exact rfl; (exact pv_lss rfl rfl); exact bool_eq (b := false) (decide_eq_false (by omega)))
      (apply wlpT; exact rfl; exact rfl; exact pv_move; exact fB rfl)
      (apply wlpT; exact rfl; exact rfl; exact pv_move; exact fI rfl)
      (apply wlpT; exact rfl; exact rfl; (exact pv_gtr rfl rfl); exact bool_eq (b := true) (decide_eq_true (by omega)))
      (repeat (first | ((apply wlpT; exact rfl; exact rfl); ((first | apply pv_move | exact pv_orF rfl rfl)); (intros; (first | exact fI rfl | exact fB rfl))) | (apply wlpF; exact rfl; exact rfl; exact rfl) | (apply wlpU; exact rfl; exact rfl)))
      (apply wlsT; exact rfl; exact rfl; exact st_call rfl ent15 rfl (c15z n _ (by omega)); rintro _ w31 ⟨rfl, hk⟩; have hp := hp.call hk)
      (apply wlsT; exact rfl; exact rfl; exact st_call rfl ent13 rfl (c13 0 _ (by decide)); rintro _ w32 ⟨rfl, hk⟩; have hp := hp.call hk)
      (apply wlpT; exact rfl; exact rfl; exact pv_sneq rfl rfl; exact bool_eq (b := false) (sneF (m := 0) (n := (0 : Int).toNat) (rfl)))
      (repeat (first | (with_reducible first | apply wpl_nil | apply thenQ_n) | (apply wlp; (intros; (first | exact pv_andT rfl rfl | exact pv_orF rfl rfl)); (intros; exact fB rfl)) | ((apply wlpT; exact rfl; exact rfl); ((first | exact pv_andT rfl rfl | exact pv_orF rfl rfl)); (intros; exact fB rfl)) | (apply wlpF; exact rfl; exact rfl; exact rfl) | (apply wlpU; exact rfl; exact rfl)))
      refine WP_cond_f rfl ?_
      (repeat (with_reducible first | apply WP_seq | apply WP_region | apply thenQ_n | apply WP_skip))
      (apply wlp; exact pv_move; exact fI rfl)
      (apply wlp; exact pv_add rfl rfl; exact int_eq (i64_in (by omega) (by omega)))
      (apply wlp; exact pv_move; exact fI rfl)
      (apply wlp; exact pv_add rfl rfl; exact int_eq (i64_in (by omega) (by omega)))
      (apply wls; exact st_call rfl ent12 rfl (c12 ((a : Int) + 1) ((b : Int) + 1) _ (by omega)); rintro _ w33 ⟨rfl, hk⟩; have hp := hp.call hk)
      (repeat (first | (apply wlp; (intros; apply pv_move); (intros; exact fI rfl)) | (apply wlpF; exact rfl; exact rfl; exact rfl) | (apply wlpU; exact rfl; exact rfl)))
      (apply wls; exact st_call rfl ent12 rfl (c12 a b _ (by omega)); rintro _ w34 ⟨rfl, hk⟩; have hp := hp.call hk)
      (apply wlp; exact pv_move; exact fI rfl)
      (apply wlp; exact pv_move; exact fI rfl)
      (apply wlp; exact pv_add rfl rfl; exact int_eq (i64_in (by omega) (by omega)))
      (apply wls; exact st_call rfl ent12 rfl (c12 a ((b : Int) + 1) _ (by omega)); rintro _ w35 ⟨rfl, hk⟩; have hp := hp.call hk)
      (apply wls; exact st_call rfl ent17 rfl (c17 (chZ a b) (chZ a ((b : Int) + 1)) _ hfc hfd); rintro _ w36 ⟨rfl, hk⟩; have hp := hp.call hk)
      (apply wlp; exact pv_seql rfl rfl; exact bool_eq (b := true) (seqT (m := chZ ((a : Int) + 1) ((b : Int) + 1)) (n := chZ a b + chZ a ((b : Int) + 1)) (hpa)))
      by_cases hba : b ≤ a
      · (apply wlp; exact pv_assign; exact fB rfl)
        (repeat (with_reducible first | apply WP_seq | apply WP_region | apply wpl_nil | apply thenQ_n))
        (apply wlp; exact pv_move; exact fI rfl)
        (apply wlp; exact pv_move; exact fI rfl)
        (apply wlp; (exact pv_gtr rfl rfl); exact bool_eq (b := false) (decide_eq_false (by omega)))
        (repeat (first | (apply wlp; (intros; apply pv_move); (intros; (first | exact fI rfl | exact fB rfl))) | ((apply wlpT; exact rfl; exact rfl); (apply pv_move); (intros; (first | exact fI rfl | exact fB rfl))) | (apply wlpF; exact rfl; exact rfl; exact rfl) | (apply wlpU; exact rfl; exact rfl)))
        (apply wlsT; exact rfl; exact rfl; exact st_call rfl ent15 rfl (c15 a _ (by omega)); rintro _ w37 ⟨rfl, hk⟩; have hp := hp.call hk)
        (repeat (first | ((apply wlpT; exact rfl; exact rfl); (apply pv_move); (intros; exact fI rfl)) | (apply wlpF; exact rfl; exact rfl; exact rfl) | (apply wlpU; exact rfl; exact rfl)))
        (apply wlsT; exact rfl; exact rfl; exact st_call rfl ent12 rfl (c12 a b _ (by omega)); rintro _ w38 ⟨rfl, hk⟩; have hp := hp.call hk)
        (repeat (first | ((apply wlpT; exact rfl; exact rfl); (apply pv_move); (intros; exact fI rfl)) | (apply wlpF; exact rfl; exact rfl; exact rfl) | (apply wlpU; exact rfl; exact rfl)))
        (apply wlsT; exact rfl; exact rfl; exact st_call rfl ent15 rfl (c15 b _ (by omega)); rintro _ w39 ⟨rfl, hk⟩; have hp := hp.call hk)
        (repeat (first | ((apply wlpT; exact rfl; exact rfl); (apply pv_move); (intros; exact fI rfl)) | (apply wlpF; exact rfl; exact rfl; exact rfl) | (apply wlpU; exact rfl; exact rfl)))
        (apply wlpT; exact rfl; exact rfl; (exact pv_sub rfl rfl); exact int_eq (b := ((a - b : Nat) : Int)) (by rw [i64_in (by omega) (by omega)]; omega))
        (apply wlsT; exact rfl; exact rfl; exact st_call rfl ent15 rfl (c15 (a - b) _ (by omega)); rintro _ w40 ⟨rfl, hk⟩; have hp := hp.call hk)
        (apply wlsT; exact rfl; exact rfl; exact st_call rfl ent18 rfl (c18 (fact b) (fact (a - b)) _ (fact_fit (by omega)) (fact_fit (by omega))); rintro _ w41 ⟨rfl, hk⟩; have hp := hp.call hk)
        (apply wlsT; exact rfl; exact rfl; exact st_call rfl ent18 rfl (c18 (chZ a b) (fact b * fact (a - b)) _ hfc hff); rintro _ w42 ⟨rfl, hk⟩; have hp := hp.call hk)
        (apply wlpT; exact rfl; exact rfl; exact pv_seql rfl rfl; exact bool_eq (b := true) (seqT (m := fact a) (n := chZ a b * (fact b * fact (a - b))) (hpr hba)))
        (repeat (first | (with_reducible first | apply WP_seq | apply WP_region | apply wpl_nil | apply thenQ_n | apply WP_ret) | ((first | apply wlp | (apply wlg; exact rfl; exact rfl)); (intros; (first | apply pv_move | apply pv_assign | exact pv_andT rfl rfl | exact pv_orF rfl rfl)); (intros; exact fB rfl))))
        exact ret_tmp rfl rfl ⟨_, rfl, rfl, hp.keeps⟩
      · (apply wlp; exact pv_assign; exact fB rfl)
        (repeat (with_reducible first | apply WP_seq | apply WP_region | apply wpl_nil | apply thenQ_n))
        (apply wlp; exact pv_move; exact fI rfl)
        (apply wlp; exact pv_move; exact fI rfl)
        (apply wlp; (exact pv_gtr rfl rfl); exact bool_eq (b := true) (decide_eq_true (by omega)))
        (repeat (first | (with_reducible first | apply WP_seq | apply WP_region | apply wpl_nil | apply thenQ_n | apply WP_ret) | (apply wlp; (intros; (first | apply pv_move | apply pv_assign | exact pv_orT rfl | exact pv_andT rfl rfl)); (intros; exact fB rfl)) | ((apply wlpT; exact rfl; exact rfl); ((first | apply pv_move | apply pv_assign | exact pv_orT rfl | exact pv_andT rfl rfl)); (intros; exact fB rfl)) | (apply wlpF; exact rfl; exact rfl; exact rfl) | (apply wlpU; exact rfl; exact rfl)))
        exact ret_tmp rfl rfl ⟨_, rfl, rfl, hp.keeps⟩
    · (apply wlp; (exact pv_lss rfl rfl); exact bool_eq (b := false) (decide_eq_false (by omega)))
      (apply wlp; exact pv_move; exact fB rfl)
      (apply wlpT; exact rfl; exact rfl; exact pv_move; exact fI rfl)
      (apply wlpT; exact rfl; exact rfl; (exact pv_gtr rfl rfl); exact bool_eq (b := false) (decide_eq_false (by omega)))
      (repeat (first | (apply wlp; (intros; (first | apply pv_move | exact pv_andF rfl | exact pv_orF rfl rfl)); (intros; (first | exact fI rfl | exact fB rfl))) | ((apply wlpT; exact rfl; exact rfl); ((first | apply pv_move | exact pv_andF rfl | exact pv_orF rfl rfl)); (intros; (first | exact fI rfl | exact fB rfl))) | (apply wlpF; exact rfl; exact rfl; exact rfl) | (apply wlpU; exact rfl; exact rfl)))
      (apply wlsT; exact rfl; exact rfl; exact st_call rfl ent12 rfl (c12 a b _ (by omega)); rintro _ w11 ⟨rfl, hk⟩; have hp := hp.call hk)
      (repeat (first | ((apply wlpT; exact rfl; exact rfl); (apply pv_move); (intros; exact fI rfl)) | (apply wlpF; exact rfl; exact rfl; exact rfl) | (apply wlpU; exact rfl; exact rfl)))
      (apply wlsT; exact rfl; exact rfl; exact st_call rfl ent14 rfl (c14 a b _ (by omega)); rintro _ w12 ⟨rfl, hk⟩; have hp := hp.call hk)
      (apply wlpT; exact rfl; exact rfl; exact pv_sneq rfl rfl; exact bool_eq (b := false) (sneF (m := chZ a b) (n := chZ a b) (rfl)))
      (repeat (first | (apply wlp; (intros; (first | apply pv_move | exact pv_orF rfl rfl)); (intros; (first | exact fI rfl | exact fB rfl))) | ((apply wlpT; exact rfl; exact rfl); ((first | apply pv_move | exact pv_orF rfl rfl)); (intros; (first | exact fI rfl | exact fB rfl))) | (apply wlpF; exact rfl; exact rfl; exact rfl) | (apply wlpU; exact rfl; exact rfl)))
      (apply wlsT; exact rfl; exact rfl; exact st_call rfl ent15 rfl (c15 a _ (by omega)); rintro _ w13 ⟨rfl, hk⟩; have hp := hp.call hk)
      (repeat (first | ((apply wlpT; exact rfl; exact rfl); (apply pv_move); (intros; exact fI rfl)) | (apply wlpF; exact rfl; exact rfl; exact rfl) | (apply wlpU; exact rfl; exact rfl)))
      (apply wlsT; exact rfl; exact rfl; exact st_call rfl ent16 rfl (c16 a _ (by omega)); rintro _ w14 ⟨rfl, hk⟩; have hp := hp.call hk)
      (apply wlpT; exact rfl; exact rfl; exact pv_sneq rfl rfl; exact bool_eq (b := false) (sneF (m := fact a) (n := fact a) (rfl)))
      (apply wlp; exact pv_orF rfl rfl; exact fB rfl)
      (apply wlp; exact pv_move; exact fB rfl)
      (apply wlpT; exact rfl; exact rfl; exact pv_move; exact fI rfl)
      (apply wlpT; exact rfl; exact rfl; (exact pv_lss rfl rfl); exact bool_eq (b := false) (decide_eq_false (by omega)))
      (apply wlpT; exact rfl; exact rfl; exact pv_move; exact fB rfl)
      (apply wlpT; exact rfl; exact rfl; exact pv_move; exact fI rfl)
      (apply wlpT; exact rfl; exact rfl; (exact pv_gtr rfl rfl); exact bool_eq (b := false) (decide_eq_false (by omega)))
      (repeat (first | (with_reducible first | apply wpl_nil | apply thenQ_n) | (apply wlp; (intros; (first | apply pv_move | exact pv_andF rfl | exact pv_orF rfl rfl)); (intros; exact fB rfl)) | ((apply wlpT; exact rfl; exact rfl); ((first | apply pv_move | exact pv_andF rfl | exact pv_orF rfl rfl)); (intros; exact fB rfl)) | (apply wlpF; exact rfl; exact rfl; exact rfl) | (apply wlpU; exact rfl; exact rfl)))
      refine WP_cond_f rfl ?_
      (repeat (with_reducible first | apply WP_seq | apply WP_region | apply thenQ_n | apply WP_skip))
      (apply wlp; exact pv_move; exact fI rfl)
      (apply wlp; exact pv_add rfl rfl; exact int_eq (i64_in (by omega) (by omega)))
      (apply wlp; exact pv_move; exact fI rfl)
      (apply wlp; exact pv_add rfl rfl; exact int_eq (i64_in (by omega) (by omega)))
      (apply wls; exact st_call rfl ent12 rfl (c12 ((a : Int) + 1) ((b : Int) + 1) _ (by omega)); rintro _ w43 ⟨rfl, hk⟩; have hp := hp.call hk)
      (repeat (first | (apply wlp; (intros; apply pv_move); (intros; exact fI rfl)) | (apply wlpF; exact rfl; exact rfl; exact rfl) | (apply wlpU; exact rfl; exact rfl)))
      (apply wls; exact st_call rfl ent12 rfl (c12 a b _ (by omega)); rintro _ w44 ⟨rfl, hk⟩; have hp := hp.call hk)
      (apply wlp; exact pv_move; exact fI rfl)
      (apply wlp; exact pv_move; exact fI rfl)
      (apply wlp; exact pv_add rfl rfl; exact int_eq (i64_in (by omega) (by omega)))
      (apply wls; exact st_call rfl ent12 rfl (c12 a ((b : Int) + 1) _ (by omega)); rintro _ w45 ⟨rfl, hk⟩; have hp := hp.call hk)
      (apply wls; exact st_call rfl ent17 rfl (c17 (chZ a b) (chZ a ((b : Int) + 1)) _ hfc hfd); rintro _ w46 ⟨rfl, hk⟩; have hp := hp.call hk)
      (apply wlp; exact pv_seql rfl rfl; exact bool_eq (b := true) (seqT (m := chZ ((a : Int) + 1) ((b : Int) + 1)) (n := chZ a b + chZ a ((b : Int) + 1)) (hpa)))
      by_cases hba : b ≤ a
      · (apply wlp; exact pv_assign; exact fB rfl)
        (repeat (with_reducible first | apply WP_seq | apply WP_region | apply wpl_nil | apply thenQ_n))
        (apply wlp; exact pv_move; exact fI rfl)
        (apply wlp; exact pv_move; exact fI rfl)
        (apply wlp; (exact pv_gtr rfl rfl); exact bool_eq (b := false) (decide_eq_false (by omega)))
        (repeat (first | (apply wlp; (intros; apply pv_move); (intros; (first | exact fI rfl | exact fB rfl))) | ((apply wlpT; exact rfl; exact rfl); (apply pv_move); (intros; (first | exact fI rfl | exact fB rfl))) | (apply wlpF; exact rfl; exact rfl; exact rfl) | (apply wlpU; exact rfl; exact rfl)))
        (apply wlsT; exact rfl; exact rfl; exact st_call rfl ent15 rfl (c15 a _ (by omega)); rintro _ w47 ⟨rfl, hk⟩; have hp := hp.call hk)
        (repeat (first | ((apply wlpT; exact rfl; exact rfl); (apply pv_move); (intros; exact fI rfl)) | (apply wlpF; exact rfl; exact rfl; exact rfl) | (apply wlpU; exact rfl; exact rfl)))
        (apply wlsT; exact rfl; exact rfl; exact st_call rfl ent12 rfl (c12 a b _ (by omega)); rintro _ w48 ⟨rfl, hk⟩; have hp := hp.call hk)
        (repeat (first | ((apply wlpT; exact rfl; exact rfl); (apply pv_move); (intros; exact fI rfl)) | (apply wlpF; exact rfl; exact rfl; exact rfl) | (apply wlpU; exact rfl; exact rfl)))
        (apply wlsT; exact rfl; exact rfl; exact st_call rfl ent15 rfl (c15 b _ (by omega)); rintro _ w49 ⟨rfl, hk⟩; have hp := hp.call hk)
        (repeat (first | ((apply wlpT; exact rfl; exact rfl); (apply pv_move); (intros; exact fI rfl)) | (apply wlpF; exact rfl; exact rfl; exact rfl) | (apply wlpU; exact rfl; exact rfl)))
        (apply wlpT; exact rfl; exact rfl; (exact pv_sub rfl rfl); exact int_eq (b := ((a - b : Nat) : Int)) (by rw [i64_in (by omega) (by omega)]; omega))
        (apply wlsT; exact rfl; exact rfl; exact st_call rfl ent15 rfl (c15 (a - b) _ (by omega)); rintro _ w50 ⟨rfl, hk⟩; have hp := hp.call hk)
        (apply wlsT; exact rfl; exact rfl; exact st_call rfl ent18 rfl (c18 (fact b) (fact (a - b)) _ (fact_fit (by omega)) (fact_fit (by omega))); rintro _ w51 ⟨rfl, hk⟩; have hp := hp.call hk)
        (apply wlsT; exact rfl; exact rfl; exact st_call rfl ent18 rfl (c18 (chZ a b) (fact b * fact (a - b)) _ hfc hff); rintro _ w52 ⟨rfl, hk⟩; have hp := hp.call hk)
        (apply wlpT; exact rfl; exact rfl; exact pv_seql rfl rfl; exact bool_eq (b := true) (seqT (m := fact a) (n := chZ a b * (fact b * fact (a - b))) (hpr hba)))
        (repeat (first | (with_reducible first | apply WP_seq | apply WP_region | apply wpl_nil | apply thenQ_n | apply WP_ret) | ((first | apply wlp | (apply wlg; exact rfl; exact rfl)); (intros; (first | apply pv_move | apply pv_assign | exact pv_andT rfl rfl | exact pv_orF rfl rfl)); (intros; exact fB rfl))))
        exact ret_tmp rfl rfl ⟨_, rfl, rfl, hp.keeps⟩
      · (apply wlp; exact pv_assign; exact fB rfl)
        (repeat (with_reducible first | apply WP_seq | apply WP_region | apply wpl_nil | apply thenQ_n))
        (apply wlp; exact pv_move; exact fI rfl)
        (apply wlp; exact pv_move; exact fI rfl)
        (apply wlp; (exact pv_gtr rfl rfl); exact bool_eq (b := true) (decide_eq_true (by omega)))
        (repeat (first | (with_reducible first | apply WP_seq | apply WP_region | apply wpl_nil | apply thenQ_n | apply WP_ret) | (apply wlp; (intros; (first | apply pv_move | apply pv_assign | exact pv_orT rfl | exact pv_andT rfl rfl)); (intros; exact fB rfl)) | ((apply wlpT; exact rfl; exact rfl); ((first | apply pv_move | apply pv_assign | exact pv_orT rfl | exact pv_andT rfl rfl)); (intros; exact fB rfl)) | (apply wlpF; exact rfl; exact rfl; exact rfl) | (apply wlpU; exact rfl; exact rfl)))
        exact ret_tmp rfl rfl ⟨_, rfl, rfl, hp.keeps⟩
end Go.Proofs.YteklkjnhefnimaaDoor
/- The law OddsRanks returns true; conditions: the list lies in memory. -/
namespace Go.Proofs.YteklkjnhefnimaaDoor
open Go.Eng Go.Dig

theorem band40 (a : Int) : 0 ≤ bandI a 1099511627775 ∧ bandI a 1099511627775 ≤ 1099511627775 := by
  have h1 : (BitVec.ofInt 64 a &&& BitVec.ofInt 64 1099511627775).toNat ≤ 1099511627775 := by
    rw [BitVec.toNat_and]
    exact Nat.le_trans Nat.and_le_right (by decide)
  unfold bandI
  rw [i64_in (by omega) (by omega)]
  omega
theorem unZ_len (pool pick : Int) (n : Nat) : (unZ pool pick n).length ≤ 60 := by
  unfold unZ
  split
  · rename_i h
    unfold unB at h
    simp only [Bool.and_eq_true, decide_eq_true_eq] at h
    obtain ⟨⟨h0, h1⟩, h2⟩ := h
    by_cases hc : pool < 0 ∨ pool > 1000 ∨ pick < 0 ∨ pick > pool
    · rw [chZ_zero hc] at h2; omega
    · obtain ⟨N, rfl⟩ : ∃ N : Nat, pool = N := ⟨pool.toNat, by omega⟩
      obtain ⟨K, rfl⟩ : ∃ K : Nat, pick = K := ⟨pick.toNat, by omega⟩
      rw [chZ_nat (by omega)] at h2
      simp only [Int.toNat_natCast]
      rw [un_len N N K n h2]
      omega
  · simp
theorem unB_out {pool pick : Int} {n : Nat} (h : pool < 0 ∨ pool > 60 ∨ pick < 0 ∨ pick > pool) : unB pool pick n = false ∧ unZ pool pick n = [] := by
  have hB : unB pool pick n = false := by
    unfold unB
    rcases h with h | h | h
    · rw [decide_eq_false (show ¬ 0 ≤ pool by omega)]; rfl
    · rw [decide_eq_false (show ¬ pool ≤ 60 by omega)]; simp
    · rw [chZ_zero (Or.inr (Or.inr h))]; simp
  exact ⟨hB, by unfold unZ; rw [hB]; rfl⟩
theorem bneF (a : Bool) : (a != a) = false := by cases a <;> rfl
theorem beqT (a : Bool) : (a == a) = true := by cases a <;> rfl

attribute [local irreducible] PV StepF wpl wpd WP Ret
attribute [local irreducible] Fit RB ofN unZ unB setB rkN

theorem c4 (pool : Int) (l : List Int) (s : Option Addr) (c : Nat) (q0 q1 q2 : Int) (w : World) (hs : SlAt w 1 eI s l) (hl : l.length ≤ 9223372036854775806) :
    Ret Tryd.prog 4 [.int .i64 pool, .slice s l.length c, .agg #[.int .i64 q0, .int .i64 q1, .int .i64 q2]] w (fun v w' => v = .bool true ∧ Keeps [] w w') := by
  have e1 := emod_of1 (n := q0) (m := 61) (by decide)
  have e2 := emod_of1 (n := q1) (m := 8) (by decide)
  have g1 := Int.emod_nonneg q0 (show (61 : Int) ≠ 0 by decide)
  have g2 := Int.emod_lt_of_pos q0 (show (0 : Int) < 61 by decide)
  have g3 := Int.emod_nonneg q1 (show (8 : Int) ≠ 0 by decide)
  have g4 := Int.emod_lt_of_pos q1 (show (0 : Int) < 8 by decide)
  obtain ⟨hz0, hz1⟩ := band40 q2
  generalize q0 % 61 = p at *
  generalize q1 % 8 = k at *
  refine Ret.of_WP Tryd.func4 rfl Tryd.ntmps4 rfl ?_
  have hp := Hp.start (M := []) (w := w)
  (repeat (with_reducible first | apply WP_seq | apply WP_region))
  (apply wls; exact sbox3 hp rfl; rintro _ w1 ⟨qb, rfl, hp⟩)
  (repeat (first | (with_reducible first | apply WP_seq | apply WP_region | apply wpl_nil | apply thenQ_n) | (apply wlp; apply pv_assign; exact fB rfl)))
  (apply wls; exact st_call rfl ent11 rfl (c11 _); rintro _ w2 ⟨rfl, hk⟩; have hp := hp.call hk)
  (repeat (first | (with_reducible first | apply WP_seq | apply WP_region | apply wpl_nil | apply thenQ_n) | (apply wlp; ((first | apply pv_assign | (apply pf_index_a; exact rfl)) <;> exact rfl); exact fB rfl)))
  (apply wlp; exact pf_index_a (i := 0) rfl rfl rfl (by decide); exact fP rfl)
  (apply wlp; exact pf_load rfl rfl (hp.cell 0 rfl rfl); exact fI rfl)
  (apply wlp; exact pv_rem rfl rfl (by decide); exact fI rfl)
  (apply wlp; exact pv_add rfl rfl; exact int_eq (i64_in (by omega) (by omega)))
  (apply wlp; exact pv_rem rfl rfl (by decide); exact int_eq e1.1)
  skip
  (apply wlp; exact pv_assign; exact fI rfl)
  (repeat (with_reducible first | apply WP_seq | apply WP_region | apply wpl_nil | apply thenQ_n))
  (apply wlp; exact pf_index_a (i := 1) rfl rfl rfl (by decide); exact fP rfl)
  (apply wlp; exact pf_load rfl rfl (hp.cell 0 rfl rfl); exact fI rfl)
  (apply wlp; exact pv_rem rfl rfl (by decide); exact fI rfl)
  (apply wlp; exact pv_add rfl rfl; exact int_eq (i64_in (by omega) (by omega)))
  (apply wlp; exact pv_rem rfl rfl (by decide); exact int_eq e2.1)
  skip
  (apply wlp; exact pv_assign; exact fI rfl)
  (repeat (with_reducible first | apply WP_seq | apply WP_region | apply wpl_nil | apply thenQ_n))
  (apply wlp; exact pf_index_a (i := 2) rfl rfl rfl (by decide); exact fP rfl)
  (apply wlp; exact pf_load rfl rfl (hp.cell 0 rfl rfl); exact fI rfl)
  (apply wlp; exact pv_band rfl rfl; exact fI rfl)
  generalize bandI q2 1099511627775 = z at *
  (apply wls; exact st_call rfl ent13 rfl (c13 z _ (by omega)); rintro _ w3 ⟨rfl, hk⟩; have hp := hp.call hk)
  have hn : Fit z.toNat := Fit.small (by omega)
  generalize z.toNat = m at *
  (repeat (first | (with_reducible first | apply WP_seq | apply WP_region | apply wpl_nil | apply thenQ_n) | (apply wlp; (first | apply pv_move | apply pv_assign); (first | exact fI rfl | exact fT rfl))))
  (apply wls; exact st_call rfl ent19 rfl (c19 p k m _ hn); rintro _ w4 ⟨sa, ca, rfl, hva, hpo⟩; have hsa := ownL_At hpo 0 rfl hva (fun _ => rfl); have hp := hp.call hpo.keeps; clear hpo)
  (repeat (first | (with_reducible first | apply WP_seq | apply WP_region | apply wpl_nil | apply thenQ_n) | (apply wlp; ((first | apply pv_move | apply pv_assign | apply pv_extract) <;> exact rfl); (first | exact fI rfl | exact fB rfl | exact fS rfl | exact fT rfl | exact fU rfl))))
  (apply wls; exact st_call rfl ent20 rfl (c20 p k m _ hn); rintro _ w5 ⟨sb, cb, rfl, hvb, hpo⟩; have hsa := hsa.keep0 hpo.keeps; have hp := hp.join hpo; clear hpo; have hsb := ownL_At hp 0 rfl hvb (fun _ => rfl))
  have hzl := unZ_len p k m
  skip
  (apply wlp; exact pv_move; exact fU rfl)
  (repeat (first | (with_reducible first | apply WP_seq | apply WP_region | apply wpl_nil | apply thenQ_n) | (apply wlp; ((first | apply pv_move | apply pv_assign | apply pv_extract) <;> exact rfl); (first | exact fB rfl | exact fS rfl))))
  (apply wlp; exact pv_bneq Tryd.underlying4 rfl rfl; exact bool_eq (b := false) (bneF _))
  (repeat (first | (apply wlp; (intros; apply pv_move); (intros; (first | exact fB rfl | exact fS rfl))) | ((apply wlpT; exact rfl; exact rfl); (apply pv_move); (intros; (first | exact fB rfl | exact fS rfl))) | (apply wlpF; exact rfl; exact rfl; exact rfl) | (apply wlpU; exact rfl; exact rfl)))
  (apply wlsT; exact rfl; exact rfl; exact st_call rfl ent21 rfl (c21 _ _ sa sb ca cb _ hsa hsb (by omega) (by omega)); rintro _ w6 ⟨rfl, hk⟩; have hp := hp.call hk; have hsb := hsb.keep0 hk)
  rw [decide_eq_true (rfl : unZ p k m = unZ p k m)]
  (repeat (first | (with_reducible first | apply wpl_nil | apply thenQ_n) | (apply wlp; (intros; ((first | exact pv_orF rfl rfl | apply pv_not) <;> exact rfl)); (intros; exact fB rfl)) | ((apply wlpT; exact rfl; exact rfl); (((first | exact pv_orF rfl rfl | apply pv_not) <;> exact rfl)); (intros; exact fB rfl)) | (apply wlpF; exact rfl; exact rfl; exact rfl) | (apply wlpU; exact rfl; exact rfl)))
  refine WP_cond_f rfl ?_
  (repeat (first | (with_reducible first | apply WP_seq | apply WP_region | apply thenQ_n | apply WP_skip) | (apply wlp; apply pv_move; exact fS rfl)))
  (apply wls; exact sf_slice hp rfl rfl rfl rfl rfl rfl rfl; rintro _ w7 ⟨nb, rfl, hp⟩)
  clear hsa hsb hva
  (repeat (first | (with_reducible first | apply WP_block | apply wpl_nil | apply thenQ_n) | (apply wlp; ((first | apply pv_move | (apply pf_len; exact rfl)) <;> exact rfl); exact fI rfl)))
  refine WP_loopS [6, 16, 18, 19, 20, 21, 22, 69, 70, 71, 72, 73, 74, 75, 76, 77, 78, 79, 80, 81, 82, 83, 84, 85, 86, 87, 88, 89, 90, 91, 92, 93, 94, 95, 96, 97, 98, 99, 100, 101, 102] (fun (i : Nat) F => F.put 69 (.int .i64 (i : Int)))
    (fun i w' => i ≤ 2 ∧ Hp w [] w' [blk nb 2 (frOf [.slice s l.length c, .slice sb (unZ p k m).length cb]) 28, ownL eI 3 1 sb cb (unZ p k m), blk qb 3 (frOf [.int .i64 q0, .int .i64 q1, .int .i64 q2]) 29]) (fun i => 2 - i) 0 (put_self (Same.eq .refl) rfl) ⟨by omega, hp⟩ ?_
  clear hp
  rintro u i w8 ⟨hi, hp⟩
  (repeat (with_reducible first | apply WP_seq | apply WP_region))
  (apply wlp; exact pv_lss rfl rfl; exact fB rfl)
  (repeat (with_reducible first | apply WP_seq | apply wpl_nil | apply thenQ_n))
  refine WP_cond_d rfl (fun h2 => ?_) (fun h2 => ?_)
  · have hi2 : i < 2 := by omega
    obtain ⟨X, sx, cx, hX, hXl, hcell⟩ : ∃ X sx cx, SlAt w8 1 eI sx X ∧ X.length ≤ 9223372036854775806 ∧ w8.cell? ⟨nb, 0 + i * 1, none⟩ = some (.slice sx X.length cx) := by
      rcases (show i = 0 ∨ i = 1 by omega) with rfl | rfl
      · exact ⟨l, s, c, hs.keep0 hp.keeps, hl, hp.cell 0 rfl rfl⟩
      · exact ⟨unZ p k m, sb, cb, ownL_At hp 1 rfl hvb (fun _ => rfl), by omega, hp.cell 0 rfl rfl⟩
    (repeat (with_reducible first | apply WP_seq | apply WP_block | apply WP_region | apply thenQ_n | apply WP_skip))
    (apply wlp; exact pf_index rfl rfl rfl rfl hi2; exact fP rfl)
    (apply wlp; exact pf_load rfl rfl hcell; exact fS rfl)
    (repeat (first | (with_reducible first | apply WP_seq | apply WP_region | apply wpl_nil | apply thenQ_n) | (apply wlp; (first | apply pv_move | apply pv_assign); (first | exact fI rfl | exact fS rfl))))
    have hpw := hp
    clear hp
    have hp := Hp.start (M := []) (w := w8)
    (apply wls; exact sf_slice hp rfl rfl rfl rfl rfl rfl rfl; rintro _ w9 ⟨nc, rfl, hp⟩)
    (repeat (first | (with_reducible first | apply WP_block | apply wpl_nil | apply thenQ_n) | (apply wlp; ((first | apply pv_move | (apply pf_len; exact rfl)) <;> exact rfl); exact fI rfl)))
    refine WP_loopS [6, 18, 19, 20, 21, 22, 77, 78, 79, 80, 81, 82, 83, 84, 85, 86, 87, 88, 89, 90, 91, 92, 93, 94, 95, 96, 97, 98, 99, 100, 101] (fun (j : Nat) F => F.put 77 (.int .i64 (j : Int)))
      (fun j w' => j ≤ 2 ∧ Hp w8 [] w' [blk nc 2 (frOf [.int .i64 pool, .int .i64 p]) 3]) (fun j => 2 - j) 0 (put_self (Same.eq .refl) rfl) ⟨by omega, hp⟩ ?_
    clear hp
    rintro u2 j w10 ⟨hj, hp⟩
    (repeat (with_reducible first | apply WP_seq | apply WP_region))
    (apply wlp; exact pv_lss rfl rfl; exact fB rfl)
    (repeat (with_reducible first | apply WP_seq | apply wpl_nil | apply thenQ_n))
    refine WP_cond_d rfl (fun h3 => ?_) (fun h3 => ?_)
    · have hj2 : j < 2 := by omega
      obtain ⟨y, hcy⟩ : ∃ y : Int, w10.cell? ⟨nc, 0 + j * 1, none⟩ = some (.int .i64 y) := by
        rcases (show j = 0 ∨ j = 1 by omega) with rfl | rfl
        · exact ⟨pool, hp.cell 0 rfl rfl⟩
        · exact ⟨p, hp.cell 0 rfl rfl⟩
      (repeat (with_reducible first | apply WP_seq | apply WP_block | apply WP_region | apply thenQ_n | apply WP_skip))
      (apply wlp; exact pf_index rfl rfl rfl rfl hj2; exact fP rfl)
      (apply wlp; exact pf_load rfl rfl hcy; exact fI rfl)
      clear hcy
      (repeat (first | (with_reducible first | apply WP_seq | apply WP_region | apply wpl_nil | apply thenQ_n) | (apply wlp; (first | apply pv_move | apply pv_assign); (first | exact fI rfl | exact fS rfl))))
      (apply wls; exact st_call rfl ent22 rfl (c22 y X sx cx _ (hX.keep0 hp.keeps) hXl); rintro _ w11 ⟨rfl, hk⟩; have hp := hp.call hk)
      generalize hr : (if setB y X = true then rkN y X X.length else 0) = r
      skip
      (apply wlp; exact pv_move; exact fU rfl)
      (repeat (first | (with_reducible first | apply WP_seq | apply WP_region | apply wpl_nil | apply thenQ_n) | (apply wlp; ((first | apply pv_move | apply pv_assign | apply pv_extract) <;> exact rfl); (first | exact fI rfl | exact fB rfl | exact fS rfl | exact fT rfl))))
      (apply wls; exact st_call rfl ent23 rfl (c23 y X sx cx _ (hX.keep0 hp.keeps) hXl); rintro _ w12 ⟨rfl, hk⟩; have hp := hp.call hk)
      rw [hr]
      skip
      (apply wlp; exact pv_move; exact fU rfl)
      (apply wlp; (apply pv_extract <;> exact rfl); exact fT rfl)
      (apply wlp; (apply pv_extract <;> exact rfl); exact fB rfl)
      (apply wlp; apply pv_assign; exact fT rfl)
      (apply wlp; apply pv_assign; exact fB rfl)
      (repeat (with_reducible first | apply WP_seq | apply WP_region | apply wpl_nil | apply thenQ_n))
      (apply wlp; apply pv_move; exact fT rfl)
      (apply wlp; apply pv_move; exact fT rfl)
      (apply wlp; exact pv_sneq rfl rfl; exact bool_eq (b := false) (sneF (m := r) (n := r) rfl))
      (apply wlp; exact pv_move; exact fB rfl)
      (apply wlpT; exact rfl; exact rfl; exact pv_move; exact fB rfl)
      (apply wlpT; exact rfl; exact rfl; exact pv_move; exact fB rfl)
      (apply wlpT; exact rfl; exact rfl; exact pv_bneq Tryd.underlying4 rfl rfl; exact bool_eq (b := false) (bneF _))
      (repeat (first | (with_reducible first | apply wpl_nil | apply thenQ_n) | (apply wlp; (intros; exact pv_orF rfl rfl); (intros; exact fB rfl)) | (apply wlpF; exact rfl; exact rfl; exact rfl) | (apply wlpU; exact rfl; exact rfl)))
      refine WP_cond_f rfl ?_
      (repeat (with_reducible first | apply WP_region | apply thenQ_n | apply inBlk_n | apply WP_skip))
      (apply wlp; exact pv_add rfl rfl; exact int_eq (i64_in (by omega) (by omega)))
      (repeat (first | (with_reducible first | apply wpl_nil | apply thenQ_n) | (apply wlp; apply pv_move; exact fI rfl)))
      exact ⟨j + 1, put_self (Same.eq (by repeat (first | exact Same.hav | exact Same.refl | refine Same.put rfl ?_ | refine Same.havs rfl ?_))) rfl, ⟨by omega, hp⟩, by omega⟩
    · have hp := hpw.call hp.keeps
      (repeat (first | (with_reducible first | apply WP_region | apply thenQ_n | apply inBlk_n | apply thenQ_exit | apply WP_exit) | ((with_reducible apply inBlk_same); exact rfl)))
      (apply wlp; exact pv_add rfl rfl; exact int_eq (i64_in (by omega) (by omega)))
      (repeat (first | (with_reducible first | apply wpl_nil | apply thenQ_n) | (apply wlp; apply pv_move; exact fI rfl)))
      exact ⟨i + 1, put_self (Same.eq (by repeat (first | exact Same.hav | exact Same.refl | refine Same.put rfl ?_ | refine Same.havs rfl ?_))) rfl, ⟨by omega, hp⟩, by omega⟩
  · have hp : Hp w [] w8 [blk qb 3 (frOf [.int .i64 q0, .int .i64 q1, .int .i64 q2]) 29] := hp.picks [2] _ rfl rfl
    (repeat (first | (with_reducible first | apply WP_seq | apply WP_region | apply thenQ_n | apply thenQ_exit | apply WP_exit) | ((with_reducible apply inBlk_same); exact rfl) | (apply wlp; ((first | apply pv_move | (apply pf_index_a; exact rfl)) <;> exact rfl); exact fI rfl)))
    (apply wlp; exact pf_index_a (i := 1) rfl rfl rfl (by decide); exact fP rfl)
    (apply wlp; exact pf_load rfl rfl (hp.cell 0 rfl rfl); exact fI rfl)
    (repeat (apply wlp; apply pv_move; exact fT rfl))
    (apply wls; exact st_call rfl ent19 rfl (c19 pool q1 m _ hn); rintro _ w9 ⟨sc, cc, rfl, hvc, hpo⟩; have hp := hp.join hpo; clear hpo)
    have hzl2 := unZ_len pool q1 m
    (apply wlp; exact pv_move; exact fU rfl)
    (apply wlp; (apply pv_extract <;> exact rfl); exact fS rfl)
    (apply wlp; (apply pv_extract <;> exact rfl); exact fB rfl)
    (apply wlp; apply pv_assign; exact fS rfl)
    (apply wlp; apply pv_assign; exact fB rfl)
    (repeat (with_reducible first | apply WP_seq | apply WP_region | apply wpl_nil | apply thenQ_n))
    (apply wlp; apply pv_move; exact fI rfl)
    by_cases ho : pool < 0 ∨ pool > 60 ∨ q1 < 0 ∨ q1 > pool
    · obtain ⟨hB, hZ⟩ := unB_out (n := m) ho
      rw [hB, hZ]
      by_cases c1 : pool < 0
      · (apply wlp; (exact pv_lss rfl rfl); exact bool_eq (b := true) (decide_eq_true (by omega)))
        (repeat (first | (with_reducible first | apply wpl_nil | apply thenQ_n) | (apply wlp; (intros; (first | apply pv_move | exact pv_orT rfl)); (intros; exact fB rfl)) | (apply wlpF; exact rfl; exact rfl; exact rfl) | (apply wlpU; exact rfl; exact rfl)))
        refine WP_cond_t rfl ?_
        (repeat (first | (with_reducible first | apply WP_seq | apply WP_region | apply wpl_nil | apply thenQ_n | apply thenQ_ret | apply WP_ret) | ((first | apply wlp | (apply wlg; exact rfl; exact rfl)); (intros; ((first | apply pv_move | apply pv_assign | (apply pf_len; exact rfl) | exact pv_andT rfl rfl | (apply pv_eql; (first | exact rfl | exact ev_sel rfl (by assumption))) | apply pv_not) <;> exact rfl)); (intros; (first | exact fI rfl | exact fB rfl | exact fS rfl)))))
        exact ret_tmp rfl rfl ⟨_, rfl, rfl, hp.keeps⟩
      by_cases c2 : pool > 60
      · (apply wlp; (exact pv_lss rfl rfl); exact bool_eq (b := false) (decide_eq_false (by omega)))
        (apply wlp; apply pv_move; exact fB rfl)
        ((apply wlpT; exact rfl; exact rfl); (apply pv_move); (intros; exact fI rfl))
        (apply wlpT; exact rfl; exact rfl; (exact pv_gtr rfl rfl); exact bool_eq (b := true) (decide_eq_true (by omega)))
        (repeat (first | (with_reducible first | apply wpl_nil | apply thenQ_n) | (apply wlp; (intros; (first | apply pv_move | exact pv_orT rfl | exact pv_orF rfl rfl)); (intros; exact fB rfl)) | (apply wlpF; exact rfl; exact rfl; exact rfl) | (apply wlpU; exact rfl; exact rfl)))
        refine WP_cond_t rfl ?_
        (repeat (first | (with_reducible first | apply WP_seq | apply WP_region | apply wpl_nil | apply thenQ_n | apply thenQ_ret | apply WP_ret) | ((first | apply wlp | (apply wlg; exact rfl; exact rfl)); (intros; ((first | apply pv_move | apply pv_assign | (apply pf_len; exact rfl) | exact pv_andT rfl rfl | (apply pv_eql; (first | exact rfl | exact ev_sel rfl (by assumption))) | apply pv_not) <;> exact rfl)); (intros; (first | exact fI rfl | exact fB rfl | exact fS rfl)))))
        exact ret_tmp rfl rfl ⟨_, rfl, rfl, hp.keeps⟩
      (apply wlp; (exact pv_lss rfl rfl); exact bool_eq (b := false) (decide_eq_false (by omega)))
      (apply wlp; apply pv_move; exact fB rfl)
      ((apply wlpT; exact rfl; exact rfl); (apply pv_move); (intros; exact fI rfl))
      (apply wlpT; exact rfl; exact rfl; (exact pv_gtr rfl rfl); exact bool_eq (b := false) (decide_eq_false (by omega)))
      (apply wlp; exact pv_orF rfl rfl; exact fB rfl)
      (apply wlp; apply pv_move; exact fB rfl)
      (apply wlpT; exact rfl; exact rfl; exact pf_index_a (i := 1) rfl rfl rfl (by decide); exact fP rfl)
      (apply wlpT; exact rfl; exact rfl; exact pf_load rfl rfl (hp.cell 1 rfl rfl); exact fI rfl)
      by_cases c3 : q1 < 0
      · (apply wlpT; exact rfl; exact rfl; (exact pv_lss rfl rfl); exact bool_eq (b := true) (decide_eq_true (by omega)))
        (repeat (first | (with_reducible first | apply wpl_nil | apply thenQ_n) | (apply wlp; (intros; (first | apply pv_move | exact pv_orT rfl | exact pv_orF rfl rfl)); (intros; exact fB rfl)) | (apply wlpF; exact rfl; exact rfl; exact rfl) | (apply wlpU; exact rfl; exact rfl)))
        refine WP_cond_t rfl ?_
        (repeat (first | (with_reducible first | apply WP_seq | apply WP_region | apply wpl_nil | apply thenQ_n | apply thenQ_ret | apply WP_ret) | ((first | apply wlp | (apply wlg; exact rfl; exact rfl)); (intros; ((first | apply pv_move | apply pv_assign | (apply pf_len; exact rfl) | exact pv_andT rfl rfl | (apply pv_eql; (first | exact rfl | exact ev_sel rfl (by assumption))) | apply pv_not) <;> exact rfl)); (intros; (first | exact fI rfl | exact fB rfl | exact fS rfl)))))
        exact ret_tmp rfl rfl ⟨_, rfl, rfl, hp.keeps⟩
      (apply wlpT; exact rfl; exact rfl; (exact pv_lss rfl rfl); exact bool_eq (b := false) (decide_eq_false (by omega)))
      (apply wlp; exact pv_orF rfl rfl; exact fB rfl)
      (apply wlp; apply pv_move; exact fB rfl)
      (apply wlpT; exact rfl; exact rfl; exact pf_index_a (i := 1) rfl rfl rfl (by decide); exact fP rfl)
      (apply wlpT; exact rfl; exact rfl; exact pf_load rfl rfl (hp.cell 1 rfl rfl); exact fI rfl)
      ((apply wlpT; exact rfl; exact rfl); (apply pv_move); (intros; exact fI rfl))
      (apply wlpT; exact rfl; exact rfl; (exact pv_gtr rfl rfl); exact bool_eq (b := true) (decide_eq_true (by omega)))
      (repeat (first | (with_reducible first | apply wpl_nil | apply thenQ_n) | (apply wlp; (intros; exact pv_orF rfl rfl); (intros; exact fB rfl)) | (apply wlpF; exact rfl; exact rfl; exact rfl) | (apply wlpU; exact rfl; exact rfl)))
      refine WP_cond_t rfl ?_
      (repeat (first | (with_reducible first | apply WP_seq | apply WP_region | apply wpl_nil | apply thenQ_n | apply thenQ_ret | apply WP_ret) | ((first | apply wlp | (apply wlg; exact rfl; exact rfl)); (intros; ((first | apply pv_move | apply pv_assign | (apply pf_len; exact rfl) | exact pv_andT rfl rfl | (apply pv_eql; (first | exact rfl | exact ev_sel rfl (by assumption))) | apply pv_not) <;> exact rfl)); (intros; (first | exact fI rfl | exact fB rfl | exact fS rfl)))))
      exact ret_tmp rfl rfl ⟨_, rfl, rfl, hp.keeps⟩
    · (apply wlp; (exact pv_lss rfl rfl); exact bool_eq (b := false) (decide_eq_false (by omega)))
      (apply wlp; apply pv_move; exact fB rfl)
      ((apply wlpT; exact rfl; exact rfl); (apply pv_move); (intros; exact fI rfl))
      (apply wlpT; exact rfl; exact rfl; (exact pv_gtr rfl rfl); exact bool_eq (b := false) (decide_eq_false (by omega)))
      (apply wlp; exact pv_orF rfl rfl; exact fB rfl)
      (apply wlp; apply pv_move; exact fB rfl)
      (apply wlpT; exact rfl; exact rfl; exact pf_index_a (i := 1) rfl rfl rfl (by decide); exact fP rfl)
      (apply wlpT; exact rfl; exact rfl; exact pf_load rfl rfl (hp.cell 1 rfl rfl); exact fI rfl)
      (apply wlpT; exact rfl; exact rfl; (exact pv_lss rfl rfl); exact bool_eq (b := false) (decide_eq_false (by omega)))
      (apply wlp; exact pv_orF rfl rfl; exact fB rfl)
      (apply wlp; apply pv_move; exact fB rfl)
      (apply wlpT; exact rfl; exact rfl; exact pf_index_a (i := 1) rfl rfl rfl (by decide); exact fP rfl)
      (apply wlpT; exact rfl; exact rfl; exact pf_load rfl rfl (hp.cell 1 rfl rfl); exact fI rfl)
      ((apply wlpT; exact rfl; exact rfl); (apply pv_move); (intros; exact fI rfl))
      (apply wlpT; exact rfl; exact rfl; (exact pv_gtr rfl rfl); exact bool_eq (b := false) (decide_eq_false (by omega)))
      (apply wlp; exact pv_orF rfl rfl; exact fB rfl)
      (repeat (with_reducible first | apply wpl_nil | apply thenQ_n))
      refine WP_cond_f rfl ?_
      (repeat (first | (with_reducible first | apply WP_seq | apply WP_region | apply thenQ_n | apply WP_skip) | (apply wlp; ((first | apply pv_move | (apply pf_index_a; exact rfl)) <;> exact rfl); exact fI rfl)))
      (apply wlp; exact pf_index_a (i := 1) rfl rfl rfl (by decide); exact fP rfl)
      (apply wlp; exact pf_load rfl rfl (hp.cell 1 rfl rfl); exact fI rfl)
      (repeat (apply wlp; apply pv_move; exact fT rfl))
      (apply wls; exact st_call rfl ent20 rfl (c20 pool q1 m _ hn); rintro _ w10 ⟨sd, cd, rfl, hvd, hpo⟩; have hp := hp.join hpo; clear hpo)
      have hsd := ownL_At hp 0 rfl hvd (fun _ => rfl)
      have hsc := ownL_At hp 1 rfl hvc (fun _ => rfl)
      (apply wlp; exact pv_move; exact fU rfl)
      (apply wlp; (apply pv_extract <;> exact rfl); exact fS rfl)
      (apply wlp; (apply pv_extract <;> exact rfl); exact fB rfl)
      (apply wlp; apply pv_assign; exact fS rfl)
      (apply wlp; apply pv_assign; exact fB rfl)
      (repeat (with_reducible first | apply WP_seq | apply WP_region | apply wpl_nil | apply thenQ_n))
      (apply wlp; apply pv_move; exact fB rfl)
      (apply wlp; apply pv_move; exact fB rfl)
      ((apply wlpT; exact rfl; exact rfl); (apply pv_move); (intros; exact fB rfl))
      ((apply wlpT; exact rfl; exact rfl); (apply pv_move); (intros; exact fB rfl))
      (apply wlpT; exact rfl; exact rfl; exact pv_beql Tryd.underlying4 rfl rfl; exact bool_eq (b := true) (beqT _))
      (apply wlp; exact pv_andT rfl rfl; exact fB rfl)
      (apply wlp; apply pv_move; exact fB rfl)
      ((apply wlpT; exact rfl; exact rfl); (apply pv_move); (intros; exact fS rfl))
      ((apply wlpT; exact rfl; exact rfl); (apply pv_move); (intros; exact fS rfl))
      (apply wlsT; exact rfl; exact rfl; exact st_call rfl ent21 rfl (c21 _ _ sc sd cc cd _ hsc hsd (by omega) (by omega)); rintro _ w11 ⟨rfl, hk⟩; have hp := hp.call hk)
      rw [decide_eq_true (rfl : unZ pool q1 m = unZ pool q1 m)]
      (repeat (first | (with_reducible first | apply wpl_nil | apply thenQ_n | apply WP_ret) | (apply wlp; (first | apply pv_assign | exact pv_andT rfl rfl); exact fB rfl)))
      exact ret_tmp rfl rfl ⟨_, rfl, rfl, hp.keeps⟩
end Go.Proofs.YteklkjnhefnimaaDoor
/- How arrays of two or three numbers are read as arguments; conditions are the hypotheses of each law. -/
namespace Go.Proofs.YteklkjnhefnimaaDoor
open Go.Eng Go.ChangeShapes Go.WideShapes Go.ChangeAt Go.RowKit Go.Deep

theorem cellsc3 : Tryd.prog.cellsOf 3 = 1 := by kernel_rfl
section
variable {H : Type} {enc : TypeId × Value → H} {w : World} {base : Nat} {spare : Nat → Bool} {held : Bool} {n : Nat} {cs : List Value} {x : DataW H × List MemPlace}
def ec3 (x : Int × Int × Int) : List Value := [.int .i64 x.1, .int .i64 x.2.1, .int .i64 x.2.2]
theorem rdc_arr3 (h : DataW.trod enc Tryd.prog w base spare held n 29 cs = some x) : ∃ a : Int × Int × Int, cs = ec3 a ∧ True := by
  obtain ⟨l, hl, rfl, _⟩ := open_arr Tryd.underlying29 cellsc3 (by kernel_rfl) (fun _ _ _ h => rd_int h) h
  obtain ⟨a, b, c, rfl⟩ := len3 hl
  exact ⟨(a, b, c), rfl, trivial⟩
end
end Go.Proofs.YteklkjnhefnimaaDoor
