/- Printed by gen_ge.py. sortesref01: Add, Mul; conditions: the numbers are short. -/
import Derived.Test.YteklkjnhefnimaaDoorGd
namespace Go.Proofs.YteklkjnhefnimaaDoor
open Go.Eng Go.Dig

theorem Fit.d24s {x : Nat} (h : Fit x) : (Go.Proofs.YteklkjnhefnimaaDoor.d24 x).length ≤ 4000 := by
  obtain ⟨k, h1, h2⟩ := h
  exact Nat.le_trans (d24_len (Nat.lt_of_lt_of_le h2 (Nat.pow_le_pow_left (by decide) k))) h1
theorem small7 {x b : Nat} (h : (digs 256 x).length ≤ b) (hb : b ≤ 7) : x < 72057594037927936 := by
  have h1 : x < 256 ^ 7 := lt_of_len (by decide) (Nat.le_trans h hb)
  rwa [show (256 : Nat) ^ 7 = 72057594037927936 from by decide] at h1
theorem small4 {x : Nat} (h : (digs 256 x).length ≤ 4) : x < 4294967296 := by
  have h1 : x < 256 ^ 4 := lt_of_len (by decide) h
  rwa [show (256 : Nat) ^ 4 = 4294967296 from by decide] at h1
theorem small3 {x : Nat} (h : (digs 256 x).length ≤ 3) : x < 16777216 := by
  have h1 : x < 256 ^ 3 := lt_of_len (by decide) h
  rwa [show (256 : Nat) ^ 3 = 16777216 from by decide] at h1
/-- no carry behind all digits -/
theorem carry_end {b x y M cy V : Nat} (hb : 2 ≤ b) (hx : x < b ^ M) (hy : y < b ^ M) (h : V + cy * b ^ (M + 1) = x % b ^ (M + 1) + y % b ^ (M + 1)) : cy = 0 := by
  have h1 := Nat.mod_le x (b ^ (M + 1))
  have h2 := Nat.mod_le y (b ^ (M + 1))
  rcases Nat.eq_zero_or_pos cy with h0 | h0
  · exact h0
  · have h3 : 1 * b ^ (M + 1) ≤ cy * b ^ (M + 1) := Nat.mul_le_mul_right _ h0
    have h4 : b ^ M * 2 ≤ b ^ (M + 1) := by rw [Nat.pow_succ]; exact Nat.mul_le_mul_left _ hb
    omega

attribute [local irreducible] PV StepF wpl wpd WP Ret
attribute [local irreducible] Fit RB

theorem c41 (x y : Nat) (w : World) (hx : Fit x) (hy : Fit y) : Ret Tryd.prog 41 [.string (ofN x), .string (ofN y)] w (fun v w' => v = .string (ofN (x + y)) ∧ Keeps [] w w') := by
  have hlx := hx.d24s
  have hly := hy.d24s
  refine Ret.of_WP Tryd.func41 rfl Tryd.ntmps41 rfl ?_
  have hp := Hp.start (M := []) (w := w)
  (repeat (first | (with_reducible first | apply WP_seq | apply WP_region | apply wpl_nil | apply thenQ_n) | (apply wlp; (first | apply pv_move | apply pv_assign); exact fT rfl)))
  (apply wls; exact st_call rfl ent68 rfl (c68 x 7 _ (by decide) hx); rintro _ w1 ⟨⟨q1, hq1, rfl⟩, hk⟩; have hp := hp.call hk)
  (repeat (first | (with_reducible first | apply WP_seq | apply WP_region | apply wpl_nil | apply thenQ_n) | (apply wlp; ((first | apply pv_move | apply pv_assign | apply pv_extract) <;> exact rfl); (first | exact fI rfl | exact fB rfl | exact fT rfl | exact fU rfl))))
  (apply wls; exact st_call rfl ent68 rfl (c68 y 7 _ (by decide) hy); rintro _ w2 ⟨⟨q2, hq2, rfl⟩, hk⟩; have hp := hp.call hk)
  (repeat (first | (with_reducible first | apply WP_seq | apply WP_region | apply wpl_nil | apply thenQ_n) | ((first | apply wlp | (apply wlg; exact rfl; exact rfl)); (intros; ((first | apply pv_move | apply pv_assign | exact pv_and rfl rfl rfl | apply pv_extract) <;> exact rfl)); (intros; (first | exact fI rfl | exact fB rfl | exact fU rfl)))))
  refine WP_cond rfl (fun h => ?_) (fun _ => ?_)
  · have hq : q1 = true ∧ q2 = true := by cases q1 <;> cases q2 <;> simp at h ⊢
    obtain ⟨rfl, rfl⟩ := hq
    have h1 := small7 (of_decide_eq_true hq1.symm) (by decide)
    have h2 := small7 (of_decide_eq_true hq2.symm) (by decide)
    (repeat (first | (with_reducible first | apply WP_seq | apply WP_region) | (apply wlp; apply pv_move; exact fI rfl)))
    (apply wlp; exact pv_add rfl rfl; exact int_eq (b := ((x + y : Nat) : Int)) (by rw [if_pos rfl, if_pos rfl, i64_in (by omega) (by omega)]; omega))
    (apply wls; exact st_call rfl ent40 rfl (c40 ((x + y : Nat) : Int) _ (by omega)); rintro _ w3 ⟨rfl, hk⟩; have hp := hp.call hk)
    rw [Int.toNat_natCast]
    (repeat (first | (with_reducible first | apply wpl_nil | apply thenQ_n | apply thenQ_ret | apply WP_ret) | (apply wlp; apply pv_assign; exact fT rfl)))
    exact ret_tmp rfl rfl ⟨_, rfl, rfl, hp.keeps⟩
  · (repeat (first | (with_reducible first | apply WP_seq | apply WP_region | apply thenQ_n | apply WP_skip) | (apply wlp; apply pv_move; exact fT rfl)))
    (apply wls; exact st_call rfl ent69 rfl (c69 x _ hx); rintro _ w3 ⟨s, c, rfl, hv1, hpo⟩)
    have hsx : SlAt w3 1 eD s (d24 x) := ownL_At hpo 0 rfl hv1 (fun _ => rfl)
    have hp := hp.call hpo.keeps
    clear hpo
    (repeat (first | (with_reducible first | apply WP_seq | apply WP_region | apply wpl_nil | apply thenQ_n) | (apply wlp; (first | apply pv_move | apply pv_assign); (first | exact fS rfl | exact fT rfl))))
    (apply wls; exact st_call rfl ent69 rfl (c69 y _ hy); rintro _ w4 ⟨s2, c2, rfl, hv2, hpo⟩)
    have hsy : SlAt w4 1 eD s2 (d24 y) := ownL_At hpo 0 rfl hv2 (fun _ => rfl)
    have hsx := hsx.keep0 hpo.keeps
    have hk0 := hp.keeps.trans hpo.keeps (by simp)
    clear hpo hp
    have hp := (Hp.start (M := []) (w := w4)).nilL eD 3 1
    obtain ⟨M, hM⟩ : ∃ M, M = max (d24 x).length (d24 y).length := ⟨_, rfl⟩
    (repeat (first | (with_reducible first | apply WP_seq | apply WP_block | apply WP_region | apply wpl_nil | apply thenQ_n) | (apply wlp; apply pv_assign; (first | exact fI rfl | exact fS rfl))))
    refine WP_loop5 [11, 12, 13, 14, 37, 38, 39, 40, 41, 42, 43, 44, 45, 46, 47, 48, 49, 50, 51, 52, 53, 54, 55, 56, 57, 58, 59, 60, 61, 62, 63, 64, 65, 66, 67, 68, 69, 70, 71, 72, 73, 74, 75, 76, 77, 78, 79, 80] (fun (k cy : Nat) (z : List Nat) (st : Option Addr) (ct : Nat) F => ((F.put 13 (.int .i64 (k : Int))).put 12 (.int .i64 (cy : Int))).put 11 (.slice st z.length ct))
      (fun k cy z st ct w' => k ≤ M + 1 ∧ z.length = k ∧ Bd 16777216 z ∧ cy < 2 ∧ val 16777216 z + cy * 16777216 ^ k = x % 16777216 ^ k + y % 16777216 ^ k ∧ SVL st ct z ∧ Hp w4 [] w' [ownL eD 3 1 st ct z])
      (fun k _ _ _ _ => M + 2 - k) 0 0 [] none 0 (put_self (put_self (put_self (Same.eq .refl) rfl) rfl) rfl) ⟨Nat.zero_le _, rfl, .nil, by decide, by simp [val, Nat.mod_one], SVL.nil, hp⟩ ?_
    clear hp
    rintro u k cy z st ct w5 ⟨hk, hzl, hzb, hcy, hval, hv, hp⟩
    have hxM : x < 16777216 ^ M := d24_lt (by omega)
    have hyM : y < 16777216 ^ M := d24_lt (by omega)
    (repeat (first | (with_reducible first | apply WP_seq | apply WP_region | apply wpl_nil | apply thenQ_n) | ((first | apply wlp | (apply wlg; exact rfl; exact rfl)); (intros; ((first | apply pv_move | (apply pf_len; exact rfl) | exact pv_or rfl rfl rfl | apply pv_lss | apply pv_gtr) <;> (first | exact rfl | exact ev_sel rfl (by assumption)))); (intros; (first | exact fI rfl | exact fB rfl | exact fS rfl)))))
    refine WP_cond rfl (fun h => ?_) (fun h => ?_)
    · have hkM : k ≤ M := by
        rcases Nat.lt_or_ge k (M + 1) with h1 | h1
        · omega
        · have e1 : k = M + 1 := by omega
          rw [e1] at hval
          have := carry_end (by decide) hxM hyM hval
          simp at h
          omega
      clear h
      obtain ⟨dx, hgx, hbx⟩ : ∃ dx, dx = x / 16777216 ^ k % 16777216 ∧ dx < 16777216 := ⟨_, rfl, Nat.mod_lt _ (by decide)⟩
      obtain ⟨dy, hgy, hby⟩ : ∃ dy, dy = y / 16777216 ^ k % 16777216 ∧ dy < 16777216 := ⟨_, rfl, Nat.mod_lt _ (by decide)⟩
      (repeat (first | (with_reducible first | apply WP_seq | apply WP_block | apply WP_region | apply wpl_nil | apply thenQ_n | apply WP_skip) | (apply wlp; ((first | apply pv_move | apply pv_assign | (apply pf_len; exact rfl) | apply pv_lss) <;> exact rfl); (first | exact fI rfl | exact fB rfl | exact fS rfl))))
      refine WP_cond_d rfl (fun h3 => ?_) (fun h3 => ?_)
      · have hltx : k < (d24 x).length := by omega
        obtain ⟨b0, o0, hs0, hc0⟩ := hsx.base (by omega)
        have hci := hc0 k _ (List.getElem?_eq_getElem hltx) 0 _ rfl
        rw [d24_get hltx, ← hgx] at hci
        have hci : w4.cell? ⟨b0, o0 + k * 1, none⟩ = some (.int .i64 (dx : Int)) := hci
        (repeat (first | with_reducible apply WP_region | (apply wlp; ((first | apply pv_move | (apply pf_load; exact rfl) | (apply pf_index; exact rfl)) <;> (first | exact rfl | assumption | exact hp.old0 (by assumption))); (first | exact fI rfl | exact fP rfl | exact fS rfl))))
        (apply wlp; (exact pv_add rfl rfl); exact int_eq (b := ((cy + dx : Nat) : Int)) (by rw [i64_in (by omega) (by omega)]; omega))
        (repeat (first | (with_reducible first | apply WP_seq | apply WP_region | apply wpl_nil | apply thenQ_n) | (apply wlp; ((first | apply pv_move | apply pv_assign | (apply pf_len; exact rfl) | apply pv_lss) <;> exact rfl); (first | exact fI rfl | exact fB rfl | exact fS rfl))))
        refine WP_cond_d rfl (fun h4 => ?_) (fun h4 => ?_)
        · have hlty : k < (d24 y).length := by omega
          obtain ⟨b1, o1, hs1, hc1⟩ := hsy.base (by omega)
          have hcj := hc1 k _ (List.getElem?_eq_getElem hlty) 0 _ rfl
          rw [d24_get hlty, ← hgy] at hcj
          have hcj : w4.cell? ⟨b1, o1 + k * 1, none⟩ = some (.int .i64 (dy : Int)) := hcj
          (repeat (first | with_reducible apply WP_region | (apply wlp; ((first | apply pv_move | (apply pf_load; exact rfl) | (apply pf_index; exact rfl)) <;> (first | exact rfl | assumption | exact hp.old0 (by assumption))); (first | exact fI rfl | exact fP rfl | exact fS rfl))))
          (apply wlp; (exact pv_add rfl rfl); exact int_eq (b := ((cy + dx + dy : Nat) : Int)) (by rw [i64_in (by omega) (by omega)]; omega))
          obtain ⟨S, hS⟩ : ∃ S, S = cy + dx + dy := ⟨_, rfl⟩
          rw [← hS]
          (repeat (first | (with_reducible first | apply WP_seq | apply WP_region | apply wpl_nil | apply thenQ_n) | (apply wlp; (first | apply pv_move | apply pv_assign); (first | exact fI rfl | exact fS rfl))))
          (apply wlp; exact pn_remI (b := 16777216) rfl rfl (by decide); exact fI rfl)
          (apply wls; exact sf_slice hp rfl rfl rfl rfl rfl rfl rfl; rintro _ w6 ⟨nb, rfl, hp⟩)
          (apply wls; exact sf_app1 eD z (S % 16777216) hp 1 0 rfl rfl rfl rfl rfl rfl (fun _ => rfl) rfl rfl rfl hv rfl rfl (by omega); rintro _ w7 ⟨s', c', rfl, hv', hp⟩)
          have hp := hp.tail
          (repeat (first | (with_reducible first | apply WP_region | apply wpl_nil | apply thenQ_n) | (apply wlp; (first | apply pv_move | apply pv_assign); (first | exact fI rfl | exact fS rfl))))
          (apply wlp; exact pn_quoI (b := 16777216) rfl rfl (by decide) (by omega); exact fI rfl)
          (repeat (first | (with_reducible first | apply WP_region | apply wpl_nil | apply thenQ_n | apply inBlk_n) | (apply wlp; (first | apply pv_move | apply pv_assign); exact fI rfl)))
          (apply wlp; exact pv_add rfl rfl; exact int_eq (i64_in (by omega) (by omega)))
          (repeat (first | (with_reducible first | apply wpl_nil | apply thenQ_n) | (apply wlp; apply pv_assign; exact fI rfl)))
          refine ⟨k + 1, S / 16777216, z ++ [S % 16777216], s', c', put_self (put_self (put_self (Same.eq (by repeat (first | exact Same.hav | exact Same.refl | refine Same.put rfl ?_ | refine Same.havs rfl ?_))) rfl) rfl) rfl, ⟨by omega, by simp [hzl], hzb.app (.cons (by omega) .nil), by omega, ?_, hv', hp⟩, by omega⟩
          rw [val_snoc, hzl]
          refine add_step hval ?_
          rw [← hgx, ← hgy]
          omega
        · have hdy : dy = 0 := by rw [hgy]; exact d24_beyond (by omega)
          obtain ⟨S, hS⟩ : ∃ S, S = cy + dx := ⟨_, rfl⟩
          rw [← hS]
          (repeat (first | (with_reducible first | apply WP_seq | apply WP_region | apply thenQ_n | apply WP_skip) | (apply wlp; apply pv_move; (first | exact fI rfl | exact fS rfl))))
          (apply wlp; exact pn_remI (b := 16777216) rfl rfl (by decide); exact fI rfl)
          (apply wls; exact sf_slice hp rfl rfl rfl rfl rfl rfl rfl; rintro _ w6 ⟨nb, rfl, hp⟩)
          (apply wls; exact sf_app1 eD z (S % 16777216) hp 1 0 rfl rfl rfl rfl rfl rfl (fun _ => rfl) rfl rfl rfl hv rfl rfl (by omega); rintro _ w7 ⟨s', c', rfl, hv', hp⟩)
          have hp := hp.tail
          (repeat (first | (with_reducible first | apply WP_region | apply wpl_nil | apply thenQ_n) | (apply wlp; (first | apply pv_move | apply pv_assign); (first | exact fI rfl | exact fS rfl))))
          (apply wlp; exact pn_quoI (b := 16777216) rfl rfl (by decide) (by omega); exact fI rfl)
          (repeat (first | (with_reducible first | apply WP_region | apply wpl_nil | apply thenQ_n | apply inBlk_n) | (apply wlp; (first | apply pv_move | apply pv_assign); exact fI rfl)))
          (apply wlp; exact pv_add rfl rfl; exact int_eq (i64_in (by omega) (by omega)))
          (repeat (first | (with_reducible first | apply wpl_nil | apply thenQ_n) | (apply wlp; apply pv_assign; exact fI rfl)))
          refine ⟨k + 1, S / 16777216, z ++ [S % 16777216], s', c', put_self (put_self (put_self (Same.eq (by repeat (first | exact Same.hav | exact Same.refl | refine Same.put rfl ?_ | refine Same.havs rfl ?_))) rfl) rfl) rfl, ⟨by omega, by simp [hzl], hzb.app (.cons (by omega) .nil), by omega, ?_, hv', hp⟩, by omega⟩
          rw [val_snoc, hzl]
          refine add_step hval ?_
          rw [← hgx, ← hgy]
          omega
      · have hdx : dx = 0 := by rw [hgx]; exact d24_beyond (by omega)
        (repeat (first | (with_reducible first | apply WP_seq | apply WP_region | apply wpl_nil | apply thenQ_n | apply WP_skip) | (apply wlp; ((first | apply pv_move | (apply pf_len; exact rfl) | apply pv_lss) <;> exact rfl); (first | exact fI rfl | exact fB rfl | exact fS rfl))))
        refine WP_cond_d rfl (fun h4 => ?_) (fun h4 => ?_)
        · have hlty : k < (d24 y).length := by omega
          obtain ⟨b1, o1, hs1, hc1⟩ := hsy.base (by omega)
          have hcj := hc1 k _ (List.getElem?_eq_getElem hlty) 0 _ rfl
          rw [d24_get hlty, ← hgy] at hcj
          have hcj : w4.cell? ⟨b1, o1 + k * 1, none⟩ = some (.int .i64 (dy : Int)) := hcj
          (repeat (first | with_reducible apply WP_region | (apply wlp; ((first | apply pv_move | (apply pf_load; exact rfl) | (apply pf_index; exact rfl)) <;> (first | exact rfl | assumption | exact hp.old0 (by assumption))); (first | exact fI rfl | exact fP rfl | exact fS rfl))))
          (apply wlp; (exact pv_add rfl rfl); exact int_eq (b := ((cy + dy : Nat) : Int)) (by rw [i64_in (by omega) (by omega)]; omega))
          obtain ⟨S, hS⟩ : ∃ S, S = cy + dy := ⟨_, rfl⟩
          rw [← hS]
          (repeat (first | (with_reducible first | apply WP_seq | apply WP_region | apply wpl_nil | apply thenQ_n) | (apply wlp; (first | apply pv_move | apply pv_assign); (first | exact fI rfl | exact fS rfl))))
          (apply wlp; exact pn_remI (b := 16777216) rfl rfl (by decide); exact fI rfl)
          (apply wls; exact sf_slice hp rfl rfl rfl rfl rfl rfl rfl; rintro _ w6 ⟨nb, rfl, hp⟩)
          (apply wls; exact sf_app1 eD z (S % 16777216) hp 1 0 rfl rfl rfl rfl rfl rfl (fun _ => rfl) rfl rfl rfl hv rfl rfl (by omega); rintro _ w7 ⟨s', c', rfl, hv', hp⟩)
          have hp := hp.tail
          (repeat (first | (with_reducible first | apply WP_region | apply wpl_nil | apply thenQ_n) | (apply wlp; (first | apply pv_move | apply pv_assign); (first | exact fI rfl | exact fS rfl))))
          (apply wlp; exact pn_quoI (b := 16777216) rfl rfl (by decide) (by omega); exact fI rfl)
          (repeat (first | (with_reducible first | apply WP_region | apply wpl_nil | apply thenQ_n | apply inBlk_n) | (apply wlp; (first | apply pv_move | apply pv_assign); exact fI rfl)))
          (apply wlp; exact pv_add rfl rfl; exact int_eq (i64_in (by omega) (by omega)))
          (repeat (first | (with_reducible first | apply wpl_nil | apply thenQ_n) | (apply wlp; apply pv_assign; exact fI rfl)))
          refine ⟨k + 1, S / 16777216, z ++ [S % 16777216], s', c', put_self (put_self (put_self (Same.eq (by repeat (first | exact Same.hav | exact Same.refl | refine Same.put rfl ?_ | refine Same.havs rfl ?_))) rfl) rfl) rfl, ⟨by omega, by simp [hzl], hzb.app (.cons (by omega) .nil), by omega, ?_, hv', hp⟩, by omega⟩
          rw [val_snoc, hzl]
          refine add_step hval ?_
          rw [← hgx, ← hgy]
          omega
        · have hdy : dy = 0 := by rw [hgy]; exact d24_beyond (by omega)
          obtain ⟨S, hS⟩ : ∃ S, S = cy := ⟨_, rfl⟩
          rw [← hS]
          (repeat (first | (with_reducible first | apply WP_seq | apply WP_region | apply thenQ_n | apply WP_skip) | (apply wlp; apply pv_move; (first | exact fI rfl | exact fS rfl))))
          (apply wlp; exact pn_remI (b := 16777216) rfl rfl (by decide); exact fI rfl)
          (apply wls; exact sf_slice hp rfl rfl rfl rfl rfl rfl rfl; rintro _ w6 ⟨nb, rfl, hp⟩)
          (apply wls; exact sf_app1 eD z (S % 16777216) hp 1 0 rfl rfl rfl rfl rfl rfl (fun _ => rfl) rfl rfl rfl hv rfl rfl (by omega); rintro _ w7 ⟨s', c', rfl, hv', hp⟩)
          have hp := hp.tail
          (repeat (first | (with_reducible first | apply WP_region | apply wpl_nil | apply thenQ_n) | (apply wlp; (first | apply pv_move | apply pv_assign); (first | exact fI rfl | exact fS rfl))))
          (apply wlp; exact pn_quoI (b := 16777216) rfl rfl (by decide) (by omega); exact fI rfl)
          (repeat (first | (with_reducible first | apply WP_region | apply wpl_nil | apply thenQ_n | apply inBlk_n) | (apply wlp; (first | apply pv_move | apply pv_assign); exact fI rfl)))
          (apply wlp; exact pv_add rfl rfl; exact int_eq (i64_in (by omega) (by omega)))
          (repeat (first | (with_reducible first | apply wpl_nil | apply thenQ_n) | (apply wlp; apply pv_assign; exact fI rfl)))
          refine ⟨k + 1, S / 16777216, z ++ [S % 16777216], s', c', put_self (put_self (put_self (Same.eq (by repeat (first | exact Same.hav | exact Same.refl | refine Same.put rfl ?_ | refine Same.havs rfl ?_))) rfl) rfl) rfl, ⟨by omega, by simp [hzl], hzb.app (.cons (by omega) .nil), by omega, ?_, hv', hp⟩, by omega⟩
          rw [val_snoc, hzl]
          refine add_step hval ?_
          rw [← hgx, ← hgy]
          omega
    · have hend : (d24 x).length ≤ k ∧ (d24 y).length ≤ k ∧ cy = 0 := by simp at h; omega
      obtain ⟨h1, h2, rfl⟩ := hend
      have hV : val 16777216 z = x + y := by
        rw [Nat.zero_mul, Nat.add_zero, Nat.mod_eq_of_lt (d24_lt h1), Nat.mod_eq_of_lt (d24_lt h2)] at hval
        exact hval
      have h70 := c70 z st ct w5 (ownL_At hp 0 rfl hv (fun _ => rfl)) hzb (by omega)
      rw [hV] at h70
      (repeat (first | (with_reducible first | apply WP_seq | apply WP_region | apply thenQ_n | apply thenQ_exit | apply WP_exit) | ((with_reducible apply inBlk_same); exact rfl) | (apply wlp; apply pv_move; exact fS rfl)))
      (apply wls; exact st_call rfl ent70 rfl h70; rintro _ w6 ⟨rfl, hk2⟩; have hp := hp.call hk2)
      (repeat (first | (with_reducible first | apply wpl_nil | apply thenQ_n | apply WP_ret) | (apply wlp; apply pv_assign; exact fT rfl)))
      exact ret_tmp rfl rfl ⟨_, rfl, rfl, hk0.trans hp.keeps (by simp)⟩
theorem c43 (x y : Nat) (w : World) (hx : Fit x) (hy : Fit y) : Ret Tryd.prog 43 [.string (ofN x), .string (ofN y)] w (fun v w' => v = .string (ofN (x * y)) ∧ Keeps [] w w') := by
  have hlx := hx.d24s
  have hly := hy.d24s
  refine Ret.of_WP Tryd.func43 rfl Tryd.ntmps43 rfl ?_
  have hp := Hp.start (M := []) (w := w)
  (repeat (first | (with_reducible first | apply WP_seq | apply WP_region | apply wpl_nil | apply thenQ_n) | (apply wlp; (first | apply pv_move | apply pv_assign); exact fT rfl)))
  (apply wls; exact st_call rfl ent68 rfl (c68 x 3 _ (by decide) hx); rintro _ w1 ⟨⟨q1, hq1, rfl⟩, hk⟩; have hp := hp.call hk)
  (repeat (first | (with_reducible first | apply WP_seq | apply WP_region | apply wpl_nil | apply thenQ_n) | (apply wlp; ((first | apply pv_move | apply pv_assign | apply pv_extract) <;> exact rfl); (first | exact fI rfl | exact fB rfl | exact fT rfl | exact fU rfl))))
  (apply wls; exact st_call rfl ent68 rfl (c68 y 4 _ (by decide) hy); rintro _ w2 ⟨⟨q2, hq2, rfl⟩, hk⟩; have hp := hp.call hk)
  (repeat (first | (with_reducible first | apply WP_seq | apply WP_region | apply wpl_nil | apply thenQ_n) | ((first | apply wlp | (apply wlg; exact rfl; exact rfl)); (intros; ((first | apply pv_move | apply pv_assign | exact pv_and rfl rfl rfl | apply pv_extract) <;> exact rfl)); (intros; (first | exact fI rfl | exact fB rfl | exact fU rfl)))))
  refine WP_cond rfl (fun h => ?_) (fun _ => ?_)
  · have hq : q1 = true ∧ q2 = true := by cases q1 <;> cases q2 <;> simp at h ⊢
    obtain ⟨rfl, rfl⟩ := hq
    have h1 := small3 (of_decide_eq_true hq1.symm)
    have h2 := small4 (of_decide_eq_true hq2.symm)
    have h3 : x * y ≤ 16777216 * 4294967296 := Nat.mul_le_mul (by omega) (by omega)
    (repeat (first | (with_reducible first | apply WP_seq | apply WP_region) | (apply wlp; apply pv_move; exact fI rfl)))
    (apply wlp; exact pv_mul rfl rfl; exact int_eq (b := ((x * y : Nat) : Int)) (by rw [if_pos rfl, if_pos rfl, ← Int.natCast_mul, i64_in (by omega) (by omega)]))
    (apply wls; exact st_call rfl ent40 rfl (c40 ((x * y : Nat) : Int) _ (by omega)); rintro _ w3 ⟨rfl, hk⟩; have hp := hp.call hk)
    rw [Int.toNat_natCast]
    (repeat (first | (with_reducible first | apply wpl_nil | apply thenQ_n | apply thenQ_ret | apply WP_ret) | (apply wlp; apply pv_assign; exact fT rfl)))
    exact ret_tmp rfl rfl ⟨_, rfl, rfl, hp.keeps⟩
  · (repeat (first | (with_reducible first | apply WP_seq | apply WP_region | apply thenQ_n | apply WP_skip) | (apply wlp; apply pv_move; exact fT rfl)))
    (apply wls; exact st_call rfl ent69 rfl (c69 x _ hx); rintro _ w3 ⟨s, c, rfl, hv1, hpo⟩)
    have hsx : SlAt w3 1 eD s (d24 x) := ownL_At hpo 0 rfl hv1 (fun _ => rfl)
    have hp := hp.call hpo.keeps
    clear hpo
    (repeat (first | (with_reducible first | apply WP_seq | apply WP_region | apply wpl_nil | apply thenQ_n) | (apply wlp; (first | apply pv_move | apply pv_assign); (first | exact fS rfl | exact fT rfl))))
    (apply wls; exact st_call rfl ent69 rfl (c69 y _ hy); rintro _ w4 ⟨s2, c2, rfl, hv2, hpo⟩)
    have hsy : SlAt w4 1 eD s2 (d24 y) := ownL_At hpo 0 rfl hv2 (fun _ => rfl)
    have hsx := hsx.keep0 hpo.keeps
    have hk0 := hp.keeps.trans hpo.keeps (by simp)
    clear hpo hp
    have hp := Hp.start (M := []) (w := w4)
    (repeat (first | (with_reducible first | apply WP_seq | apply WP_region | apply wpl_nil | apply thenQ_n) | (apply wlp; ((first | apply pv_move | apply pv_assign | (apply pf_len; exact rfl)) <;> exact rfl); (first | exact fI rfl | exact fS rfl))))
    (apply wlp; (exact pv_add rfl rfl); exact int_eq (b := (((d24 x).length + (d24 y).length : Nat) : Int)) (by rw [i64_in (by omega) (by omega)]; omega))
    (apply wls; exact sf_make eD 0 hp rfl rfl rfl rfl rfl rfl rfl (by omega) rfl; rintro _ w5 ⟨g, rfl, hv, hp⟩)
    (repeat (first | (with_reducible first | apply WP_seq | apply WP_block | apply WP_region | apply wpl_nil | apply thenQ_n) | (apply wlp; apply pv_assign; (first | exact fI rfl | exact fS rfl))))
    refine WP_loop2 [12, 13, 14, 15, 44, 45, 46, 47, 48, 49, 50, 51, 52, 53, 54, 55, 56, 57, 58, 59, 60, 61, 62, 63, 64, 65, 66, 67, 68, 69, 70, 71, 72, 73, 74, 75, 76, 77, 78, 79, 80, 81, 82, 83, 84, 85, 86, 87, 88, 89] (fun (i : Nat) (_z : List Nat) F => F.put 12 (.int .i64 (i : Int)))
      (fun i z w' => i ≤ (d24 x).length ∧ z.length = (d24 x).length + (d24 y).length ∧ Bd 16777216 z ∧ val 16777216 z = x % 16777216 ^ i * y ∧ SVL (some ⟨g, 0, none⟩) ((d24 x).length + (d24 y).length) z ∧ Hp w4 [] w' [ownL eD 3 1 (some ⟨g, 0, none⟩) ((d24 x).length + (d24 y).length) z])
      (fun i _ => (d24 x).length - i) 0 (List.replicate ((d24 x).length + (d24 y).length) 0) (put_self (Same.eq .refl) rfl) ⟨Nat.zero_le _, by simp, zeros_bd (by decide) _, by simp [val_zeros, Nat.mod_one], hv, hp⟩ ?_
    clear hp hv
    rintro u i z w6 ⟨hi, hzl, hzb, hval, hv, hp⟩
    (repeat (first | (with_reducible first | apply WP_seq | apply WP_region | apply wpl_nil | apply thenQ_n) | (apply wlp; ((first | apply pv_move | (apply pf_len; exact rfl) | apply pv_lss) <;> exact rfl); (first | exact fI rfl | exact fB rfl | exact fS rfl))))
    refine WP_cond_d rfl (fun h2 => ?_) (fun h2 => ?_)
    · have hlt : i < (d24 x).length := by omega
      obtain ⟨b0, o0, hs0, hc0⟩ := hsx.base (by omega)
      have hci := hc0 i _ (List.getElem?_eq_getElem hlt) 0 _ rfl
      have hbd := (d24_bd x).get hlt
      have hg := d24_get hlt
      generalize (d24 x)[i] = dx at hci hbd hg
      have hci : w4.cell? ⟨b0, o0 + i * 1, none⟩ = some (.int .i64 (dx : Int)) := hci
      have htop : z[i + (d24 y).length]? = some 0 := by
        have h1 : i + (d24 y).length < z.length := by omega
        rw [List.getElem?_eq_getElem h1]
        congr 1
        refine val_high (b := 16777216) (by decide) (k := i + (d24 y).length) ?_ h1 (Nat.le_refl _)
        rw [hval, Nat.pow_add]
        exact Nat.mul_lt_mul'' (Nat.mod_lt _ (Nat.pow_pos (by decide))) (d24_lt (Nat.le_refl _))
      (repeat (first | (with_reducible first | apply WP_seq | apply WP_block | apply WP_region | apply wpl_nil | apply thenQ_n | apply WP_skip) | (apply wlp; apply pv_assign; exact fI rfl)))
      refine WP_loop3 [13, 14, 15, 50, 51, 52, 53, 54, 55, 56, 57, 58, 59, 60, 61, 62, 63, 64, 65, 66, 67, 68, 69, 70, 71, 72, 73, 74, 75, 76, 77, 78, 79, 80, 81, 82] (fun (j cy : Nat) (_z : List Nat) F => (F.put 14 (.int .i64 (j : Int))).put 13 (.int .i64 (cy : Int)))
        (fun j cy z w' => j ≤ (d24 y).length ∧ z.length = (d24 x).length + (d24 y).length ∧ Bd 16777216 z ∧ cy < 16777216 ∧ val 16777216 z + cy * 16777216 ^ (i + j) = x % 16777216 ^ i * y + dx * (y % 16777216 ^ j) * 16777216 ^ i ∧ z[i + (d24 y).length]? = some 0 ∧ SVL (some ⟨g, 0, none⟩) ((d24 x).length + (d24 y).length) z ∧ Hp w4 [] w' [ownL eD 3 1 (some ⟨g, 0, none⟩) ((d24 x).length + (d24 y).length) z])
        (fun j _ _ => (d24 y).length - j) 0 0 z (put_self (put_self (Same.eq .refl) rfl) rfl) ⟨Nat.zero_le _, hzl, hzb, by omega, by simp [hval, Nat.mod_one], htop, hv, hp⟩ ?_
      clear hp hv hzl hzb hval htop z
      rintro u2 j cy z w7 ⟨hj, hzl, hzb, hcy, hval, htop, hv, hp⟩
      (repeat (first | (with_reducible first | apply WP_seq | apply WP_region | apply wpl_nil | apply thenQ_n) | (apply wlp; ((first | apply pv_move | (apply pf_len; exact rfl) | apply pv_lss) <;> exact rfl); (first | exact fI rfl | exact fB rfl | exact fS rfl))))
      refine WP_cond_d rfl (fun h3 => ?_) (fun h3 => ?_)
      · have hltj : j < (d24 y).length := by omega
        have hij : i + j < (d24 x).length + (d24 y).length := by omega
        have hijz : i + j < z.length := by omega
        obtain ⟨b1, o1, hs1, hc1⟩ := hsy.base (by omega)
        have hcj := hc1 j _ (List.getElem?_eq_getElem hltj) 0 _ rfl
        have hbd2 := (d24_bd y).get hltj
        have hg2 := d24_get hltj
        generalize (d24 y)[j] = dy at hcj hbd2 hg2
        have hcj : w4.cell? ⟨b1, o1 + j * 1, none⟩ = some (.int .i64 (dy : Int)) := hcj
        have hgz := List.getElem?_eq_getElem hijz
        have hzo := hzb.get hijz
        have hset := fun d => val_set 16777216 z (i + j) d hijz
        generalize z[i + j] = old at hgz hzo hset
        have hcz : w7.cell? ⟨g, 0 + (i + j) * 1, none⟩ = some (.int .i64 (old : Int)) := own_elem hp 0 rfl hv (fun _ => rfl) hgz 0 _ rfl
        have hfit := mul_fit hcy hbd hbd2 hzo
        obtain ⟨pr, hpr⟩ : ∃ pr, pr = dx * dy := ⟨_, rfl⟩
        rw [← hpr] at hfit
        (repeat (with_reducible first | apply WP_seq | apply WP_block | apply thenQ_n | apply WP_skip))
        have HP7 := hp
        refine WP_draw mixed (by kernel_rfl) (fun w' => Hp w7 [] w' []) Hp.start.drew ?_
        (apply wdp; exact rfl; (intro w hp; exact pv_move); exact fS rfl)
        (apply wdp; exact rfl; (intro w hp; exact pv_move); exact fI rfl)
        (apply wdp; exact rfl; (intro w hp; exact pv_move); exact fI rfl)
        (apply wdp; exact rfl; (intro w hp; exact pv_add rfl rfl); exact int_eq (b := ((i + j : Nat) : Int)) (by rw [i64_in (by omega) (by omega)]; omega))
        (apply wdp; exact rfl; (intro w hp; exact pf_index rfl rfl rfl rfl hij); exact fP rfl)
        (apply wdp; exact rfl; (intro w hp; exact pf_load rfl rfl (hp.old0 hcz)); exact fI rfl)
        (apply wdp; exact rfl; (intro w hp; exact pv_move); exact fS rfl)
        (apply wdp; exact rfl; (intro w hp; exact pv_move); exact fI rfl)
        (apply wdp; exact rfl; (intro w hp; exact pf_index rfl rfl rfl hs0 hlt); exact fP rfl)
        have hci7 := HP7.keeps.cell hci (by simp)
        (apply wdp; exact rfl; (intro w hp; exact pf_load rfl rfl (hp.old0 hci7)); exact fI rfl)
        (apply wdp; exact rfl; (intro w hp; exact pv_move); exact fS rfl)
        (apply wdp; exact rfl; (intro w hp; exact pv_move); exact fI rfl)
        (apply wdp; exact rfl; (intro w hp; exact pf_index rfl rfl rfl hs1 hltj); exact fP rfl)
        have hcj7 := HP7.keeps.cell hcj (by simp)
        (apply wdp; exact rfl; (intro w hp; exact pf_load rfl rfl (hp.old0 hcj7)); exact fI rfl)
        (apply wdp; exact rfl; (intro w hp; exact pv_mul rfl rfl); exact int_eq (b := (pr : Int)) (by rw [← Int.natCast_mul, ← hpr, i64_in (by omega) (by omega)]))
        (apply wdp; exact rfl; (intro w hp; exact pv_add rfl rfl); exact int_eq (b := ((old + pr : Nat) : Int)) (by rw [i64_in (by omega) (by omega)]; omega))
        (apply wdp; exact rfl; (intro w hp; exact pv_move); exact fI rfl)
        (apply wdp; exact rfl; (intro w hp; exact pv_add rfl rfl); exact int_eq (b := ((old + pr + cy : Nat) : Int)) (by rw [i64_in (by omega) (by omega)]; omega))
        obtain ⟨S, hS⟩ : ∃ S, S = old + pr + cy := ⟨_, rfl⟩
        rw [← hS]
        (repeat ((apply wdp; exact rfl); (intro w hp; intros; apply pv_assign); (intros; exact fI rfl)))
        refine wpd_nil ?_
        have hp := HP7.drew
        (repeat (first | (with_reducible first | apply WP_seq | apply WP_region | apply thenQ_n) | (apply wlp; apply pv_move; (first | exact fI rfl | exact fS rfl))))
        (apply wlp; (exact pv_add rfl rfl); exact int_eq (b := ((i + j : Nat) : Int)) (by rw [i64_in (by omega) (by omega)]; omega))
        (repeat (apply wlp; apply pv_move; exact fI rfl))
        (apply wlp; exact pn_remI (b := 16777216) rfl rfl (by decide); exact fI rfl)
        (repeat (apply wlp; ((apply pf_index; exact rfl) <;> (first | exact rfl | assumption)); exact fP rfl))
        (apply wls0; exact st_setL eD z (i + j) _ hp 0 rfl hv hijz rfl rfl (fun _ => rfl) rfl rfl (sizeTy_ok rfl); rintro _ w8 ⟨rfl, hp⟩)
        (repeat (first | (with_reducible first | apply WP_region | apply wpl_nil | apply thenQ_n) | (apply wlp; apply pv_move; exact fI rfl)))
        (apply wlp; exact pn_quoI (b := 16777216) rfl rfl (by decide) (by omega); exact fI rfl)
        (repeat (first | (with_reducible first | apply WP_region | apply wpl_nil | apply thenQ_n | apply inBlk_n) | (apply wlp; (first | apply pv_move | apply pv_assign); exact fI rfl)))
        (apply wlp; exact pv_add rfl rfl; exact int_eq (i64_in (by omega) (by omega)))
        (repeat (first | (with_reducible first | apply wpl_nil | apply thenQ_n) | (apply wlp; apply pv_assign; exact fI rfl)))
        refine ⟨j + 1, _, _, put_self (put_self (Same.eq (by repeat (first | exact Same.hav | exact Same.refl | refine Same.put rfl ?_ | refine Same.havs rfl ?_))) rfl) rfl, ⟨by omega, ?_, ?_, ?_, ?_, ?_, hv.set _ _, hp⟩, by omega⟩
        · rw [List.length_set, hzl]
        · exact hzb.set (by omega)
        · omega
        · exact mul_step hval (by rw [← hg2, ← hpr]; omega) (hset _)
        · rw [List.getElem?_set_ne (by omega)]
          exact htop
      · obtain rfl : j = (d24 y).length := by omega
        have hij : i + (d24 y).length < (d24 x).length + (d24 y).length := by omega
        have hijz : i + (d24 y).length < z.length := by omega
        (repeat (first | (with_reducible first | apply WP_region | apply thenQ_n | apply thenQ_exit | apply WP_exit) | ((with_reducible apply inBlk_same); exact rfl) | (apply wlp; ((first | apply pv_move | (apply pf_len; exact rfl)) <;> exact rfl); (first | exact fI rfl | exact fS rfl))))
        (apply wlp; (exact pv_add rfl rfl); exact int_eq (b := ((i + (d24 y).length : Nat) : Int)) (by rw [i64_in (by omega) (by omega)]; omega))
        (repeat (apply wlp; ((first | apply pv_move | (apply pf_index; exact rfl)) <;> (first | exact rfl | assumption)); (first | exact fI rfl | exact fP rfl)))
        (apply wls0; exact st_setL eD z (i + (d24 y).length) _ hp 0 rfl hv hijz rfl rfl (fun _ => rfl) rfl rfl (sizeTy_ok rfl); rintro _ w8 ⟨rfl, hp⟩)
        (repeat (first | (with_reducible first | apply WP_region | apply wpl_nil | apply thenQ_n | apply inBlk_n) | (apply wlp; apply pv_move; exact fI rfl)))
        (apply wlp; exact pv_add rfl rfl; exact int_eq (i64_in (by omega) (by omega)))
        (repeat (first | (with_reducible first | apply wpl_nil | apply thenQ_n) | (apply wlp; apply pv_assign; exact fI rfl)))
        refine ⟨i + 1, _, put_self (Same.eq (by repeat (first | exact Same.hav | exact Same.refl | refine Same.put rfl ?_ | refine Same.havs rfl ?_))) rfl, ⟨by omega, ?_, ?_, ?_, hv.set _ _, hp⟩, by omega⟩
        · rw [List.length_set, hzl]
        · exact hzb.set hcy
        · have h1 := val_set 16777216 z (i + (d24 y).length) cy hijz
          have h0 : z[i + (d24 y).length] = 0 := by
            rw [List.getElem?_eq_getElem hijz] at htop
            simpa using htop
          rw [h0, Nat.mul_zero, Nat.add_zero, Nat.mul_comm (16777216 ^ _) cy, hval, Nat.mod_eq_of_lt (d24_lt (Nat.le_refl (d24 y).length))] at h1
          rw [h1, mul_row, ← hg]
    · obtain rfl : i = (d24 x).length := by omega
      rw [Nat.mod_eq_of_lt (d24_lt (Nat.le_refl _))] at hval
      have h70 := c70 z (some ⟨g, 0, none⟩) ((d24 x).length + (d24 y).length) w6 (ownL_At hp 0 rfl hv (fun _ => rfl)) hzb (by omega)
      rw [hval, hzl] at h70
      (repeat (first | (with_reducible first | apply WP_seq | apply WP_region | apply thenQ_n | apply thenQ_exit | apply WP_exit) | ((with_reducible apply inBlk_same); exact rfl) | (apply wlp; apply pv_move; exact fS rfl)))
      (apply wls; exact st_call rfl ent70 rfl h70; rintro _ w7 ⟨rfl, hk2⟩; have hp := hp.call hk2)
      (repeat (first | (with_reducible first | apply wpl_nil | apply thenQ_n | apply WP_ret) | (apply wlp; apply pv_assign; exact fT rfl)))
      exact ret_tmp rfl rfl ⟨_, rfl, rfl, hk0.trans hp.keeps (by simp)⟩
end Go.Proofs.YteklkjnhefnimaaDoor
