/- Merged texts of ours: Ga Gd Ge Ja Jb La Lb Lc Ld Le Lf Lg Lh; conditions are the hypotheses of each law. -/
import Derived.Test.YtfjbioghpgmkiaaGreatDoorQ1
/- sortesref01: Canon, Of, Int, small; conditions: the numbers are short. -/
namespace Go.Proofs.YtfjbioghpgmkiaaGreatDoor
open Go.Eng Go.Dig

theorem canon_digs (x : Nat) : (digs 256 x).reverse.dropWhile (· == 0) = (digs 256 x).reverse := by
  have h := strip_dg (lt_of_len (b := 256) (by decide) (Nat.le_refl (digs 256 x).length))
  have h1 : dg 256 x (digs 256 x).length = digs 256 x := by
    have := dg_of_val (digs_bd (b := 256) (by decide) x)
    rw [digs_val (by decide)] at this
    exact this.symm
  rwa [h1] at h
section
variable {P : Program} {n : Nat} {F : Fr} {w : World} {d : Option Tmp} {ty : TypeId} {pos : String} {aft : Array Edge} {g : Option (Nat × Bool)} {x y : Operand}
theorem pv_max {ts : Array TypeId} {k : IntKind} {a b : Int} (hx : ev n F x = .int k a) (hy : ev n F y = .int k b) : PV P n w F ⟨d, .call ⟨.builtin .max, #[x, y], ts⟩, ty, pos, aft, g⟩ (.int k (max a b)) := by
  have : (if a < b then b else a) = max a b := by rw [Int.max_def]; split <;> split <;> omega
  simp [PV, execOp, resolve, invoke, builtin, Builtin.max_, Builtin.max2, hx, hy, this]
theorem pf_bts0 {t t' : Nat} (ht : slTy t = some (5, 1)) (ht' : strTy t' = true) (hx : ev n F x = .slice none 0 0) : PV Tryz.prog n w F ⟨d, .convert t t' x, ty, pos, aft, g⟩ (.string (bs [])) := by
  have h1 := run_und (P := Tryz.prog) (w := w) (slTy_ok ht).1
  have h2 := run_und (P := Tryz.prog) (w := w) (strTy_ok ht')
  have h3 := run_und (P := Tryz.prog) (w := w) (intTy_ok (t := 5) (k := .u8) rfl)
  simp only [PV, execOp, convert, hx, Sem.run_bind, h1, h2, Result.andThen_ok, h3]
  rfl
end

attribute [local irreducible] PV StepF wpl wpd WP Ret
attribute [local irreducible] Fit

theorem c67 (l : List Nat) (w : World) (hb : Bd 256 l) (hl : l.length ≤ 9223372036854775806) : Ret Tryz.prog 57 [.string (bs l)] w (fun v w' => v = .string (bs (l.dropWhile (· == 0))) ∧ Keeps [] w w') := by
  refine Ret.of_WP Tryz.func57 rfl Tryz.ntmps57 rfl ?_
  have hp := Hp.start (M := []) (w := w)
  (repeat (first | (with_reducible first | apply WP_seq | apply WP_block | apply WP_region | apply wpl_nil | apply thenQ_n) | (apply wlp; apply pv_assign; (first | exact fI rfl | exact fT rfl))))
  refine WP_loopS [3, 4, 5, 6, 7, 8, 9, 10, 11, 12, 13, 14, 15] (fun (k : Nat) F => F.put 3 (.int .i64 (k : Int))) (fun k w' => k ≤ l.length ∧ l.dropWhile (· == 0) = (l.drop k).dropWhile (· == 0) ∧ Hp w [] w' []) (fun k => l.length - k) 0 (put_self (Same.eq .refl) rfl) ⟨Nat.zero_le _, by simp, hp⟩ ?_
  clear hp
  rintro u k w1 ⟨hk, he, hp⟩
  (repeat (with_reducible first | apply WP_seq | apply WP_region))
  (apply wlp; exact pv_move; exact fI rfl)
  (apply wlp; exact pv_move; exact fT rfl)
  (apply wlp; exact pf_lenb rfl rfl; exact fI rfl)
  by_cases hlt : k < l.length
  · have hd : l.drop k = l[k] :: l.drop (k + 1) := List.drop_eq_getElem_cons hlt
    (apply wlp; (exact pv_lss rfl rfl); exact bool_eq (b := true) (decide_eq_true (by omega)))
    (apply wlp; apply pv_move; exact fB rfl)
    (apply wlpT; exact rfl; exact rfl; exact pv_move; exact fT rfl)
    (apply wlpT; exact rfl; exact rfl; exact pv_move; exact fI rfl)
    (apply wlpT; exact rfl; exact rfl; exact pf_at rfl rfl rfl hb hlt; exact fI rfl)
    generalize l[k] = y at hd
    (repeat (first | (with_reducible first | apply wpl_nil | apply thenQ_n) | (apply wlp; (intros; ((first | exact pv_andT rfl rfl | (apply pv_eql; (first | exact rfl | exact ev_sel rfl (by assumption)))) <;> exact rfl)); (intros; exact fB rfl)) | ((apply wlpT; exact rfl; exact rfl); (((first | exact pv_andT rfl rfl | (apply pv_eql; (first | exact rfl | exact ev_sel rfl (by assumption)))) <;> exact rfl)); (intros; exact fB rfl)) | (apply wlpF; exact rfl; exact rfl; exact rfl) | (apply wlpU; exact rfl; exact rfl)))
    refine WP_cond_d rfl (fun h => ?_) (fun h => ?_)
    · (repeat (first | (with_reducible first | apply WP_block | apply WP_region | apply thenQ_n | apply WP_skip) | (apply wlp; apply pv_move; exact fI rfl)))
      (apply wlp; exact pv_add rfl rfl; exact int_eq (i64_in (by omega) (by omega)))
      (repeat (first | (with_reducible first | apply wpl_nil | apply thenQ_n | apply inBlk_n) | (apply wlp; apply pv_assign; exact fI rfl)))
      refine ⟨k + 1, put_self (Same.eq (by repeat (first | exact Same.hav | exact Same.refl | refine Same.put rfl ?_ | refine Same.havs rfl ?_))) rfl, ⟨by omega, ?_, hp⟩, by omega⟩
      have h0 : y = 0 := by omega
      rw [he, hd, h0]
      rfl
    · (repeat (first | (with_reducible first | apply WP_seq | apply WP_region | apply thenQ_n | apply thenQ_exit | apply WP_exit) | ((with_reducible apply inBlk_same); exact rfl) | (apply wlp; apply pv_move; (first | exact fI rfl | exact fT rfl))))
      (apply wlp; exact pf_strLo rfl rfl rfl hk; exact fT rfl)
      (repeat (first | (with_reducible first | apply wpl_nil | apply thenQ_n | apply WP_ret) | (apply wlp; apply pv_assign; exact fT rfl)))
      refine ret_tmp rfl rfl ⟨_, rfl, ?_, hp.keeps⟩
      have h0 : y ≠ 0 := by omega
      have h1 : (l.drop k).dropWhile (· == 0) = l.drop k := by rw [hd]; simp [h0]
      rw [he, h1]
      rfl
  · obtain rfl : k = l.length := by omega
    (apply wlp; (exact pv_lss rfl rfl); exact bool_eq (b := false) (decide_eq_false (by omega)))
    (repeat (first | (with_reducible first | apply wpl_nil | apply thenQ_n) | (apply wlp; (intros; (first | apply pv_move | exact pv_andF rfl)); (intros; exact fB rfl)) | (apply wlpF; exact rfl; exact rfl; exact rfl) | (apply wlpU; exact rfl; exact rfl)))
    refine WP_cond_f rfl ?_
    (repeat (first | (with_reducible first | apply WP_seq | apply WP_region | apply thenQ_n | apply thenQ_exit | apply WP_exit) | ((with_reducible apply inBlk_same); exact rfl) | (apply wlp; apply pv_move; (first | exact fI rfl | exact fT rfl))))
    (apply wlp; exact pf_strLo rfl rfl rfl hk; exact fT rfl)
    (repeat (first | (with_reducible first | apply wpl_nil | apply thenQ_n | apply WP_ret) | (apply wlp; apply pv_assign; exact fT rfl)))
    refine ret_tmp rfl rfl ⟨_, rfl, ?_, hp.keeps⟩
    rw [he, List.drop_length]
    rfl
theorem c67S (st : ByteArray) (x : Nat) (w : World) (h : NS st x) : Ret Tryz.prog 57 [.string st] w (fun v w' => v = .string (ofN x) ∧ Keeps [] w w') := by
  obtain ⟨br, rfl, hb, hl, rfl⟩ := h
  have h1 := c67 br w hb (by omega)
  have h2 : br.dropWhile (· == 0) = (digs 256 (val 256 br.reverse)).reverse := by
    have := trimL_digs (b := 256) (by decide) (Bd.rev hb)
    unfold trimL at this
    rw [List.reverse_reverse] at this
    rw [← this, List.reverse_reverse]
  rw [h2] at h1
  exact h1
/-- a canonical string stays -/
theorem c67N (x : Nat) (w : World) (h : Fit x) : Ret Tryz.prog 57 [.string (ofN x)] w (fun v w' => v = .string (ofN x) ∧ Keeps [] w w') := by
  have h8 := h.d8
  have := c67 (digs 256 x).reverse w (Bd.rev (digs_bd (by decide) x)) (by rw [List.length_reverse]; omega)
  rw [canon_digs] at this
  exact this
theorem c40 (a : Int) (w : World) (h2 : a ≤ 9223372036854775807) : Ret Tryz.prog 37 [.int .i64 a] w (fun v w' => v = .string (ofN a.toNat) ∧ Keeps [] w w') := by
  refine Ret.of_WP Tryz.func37 rfl Tryz.ntmps37 rfl ?_
  have hp := (Hp.start (M := []) (w := w)).nilL eB 5 1
  (repeat (first | (with_reducible first | apply WP_seq | apply WP_block | apply WP_region | apply wpl_nil | apply thenQ_n) | (apply wlp; apply pv_assign; (first | exact fI rfl | exact fS rfl | exact fT rfl))))
  by_cases h0 : 0 < a
  · obtain ⟨x, rfl⟩ : ∃ x : Nat, a = x := ⟨a.toNat, by omega⟩
    have hx8 : x < 256 ^ 8 := by
      have : (256 : Nat) ^ 8 = 18446744073709551616 := by decide
      omega
    refine WP_loop3 [3, 4, 5, 6, 7, 8, 9, 10, 11, 12, 13, 14, 15, 16, 17, 18, 19] (fun (j : Nat) (s : Option Addr) (c : Nat) F => (F.put 4 (.int .i64 (8 * (j : Int) - 8))).put 3 (.slice s ((dg 256 x 8).drop j).reverse.length c))
      (fun j s c w' => j ≤ 8 ∧ SVL s c ((dg 256 x 8).drop j).reverse ∧ Hp w [] w' [ownL eB 5 1 s c ((dg 256 x 8).drop j).reverse]) (fun j _ _ => j) 8 none 0 (put_self (put_self (Same.eq .refl) rfl) rfl) ⟨Nat.le_refl _, SVL.nil, hp⟩ ?_
    clear hp
    rintro u j s c w1 ⟨hj, hv, hp⟩
    by_cases hj0 : 0 < j
    · obtain ⟨i, rfl⟩ : ∃ i, j = i + 1 := ⟨j - 1, by omega⟩
      have ei : (8 * ((i + 1 : Nat) : Int) - 8) = ((8 * i : Nat) : Int) := by omega
      rw [ei]
      have hlt : i < (dg 256 x 8).length := by rw [dg_len]; omega
      have hgi := dg_get 256 8 x i (by omega)
      have hdr : ((dg 256 x 8).drop i).reverse = ((dg 256 x 8).drop (i + 1)).reverse ++ [x / 256 ^ i % 256] := by
        rw [List.drop_eq_getElem_cons hlt, List.reverse_cons]
        rw [List.getElem?_eq_getElem hlt] at hgi
        simp only [Option.some.injEq] at hgi
        rw [hgi]
      have hll : ((dg 256 x 8).drop (i + 1)).reverse.length ≤ 8 := by rw [List.length_reverse, List.length_drop, dg_len]; omega
      generalize ((dg 256 x 8).drop (i + 1)).reverse = Z at *
      (repeat (with_reducible first | apply WP_seq | apply WP_region))
      (apply wlp; apply pv_move; exact fI rfl)
      (apply wlp; (exact pv_geq rfl rfl); exact bool_eq (b := true) (decide_eq_true (by omega)))
      (apply wlp; apply pv_move; exact fB rfl)
      (apply wlpT; exact rfl; exact rfl; exact pv_move; exact fI rfl)
      (apply wlpT; exact rfl; exact rfl; (exact pv_gtr rfl rfl); exact bool_eq (b := true) (decide_eq_true (by omega)))
      (repeat (first | (with_reducible first | apply wpl_nil | apply thenQ_n) | (apply wlp; (intros; exact pv_andT rfl rfl); (intros; exact fB rfl)) | (apply wlpF; exact rfl; exact rfl; exact rfl) | (apply wlpU; exact rfl; exact rfl)))
      refine WP_cond_t rfl ?_
      (repeat (first | (with_reducible first | apply WP_seq | apply WP_block | apply WP_region | apply thenQ_n | apply WP_skip) | (apply wlp; apply pv_move; (first | exact fI rfl | exact fS rfl))))
      (apply wlp; exact pn_shr (b := 8 * i) rfl rfl (by show 8 * i ≤ 64; omega); exact int_eq (b := ((x / 256 ^ i : Nat) : Int)) (by rw [show (256 : Nat) ^ i = 2 ^ (8 * i) from by rw [Nat.pow_mul]]))
      (apply wlp; exact pn_8of rfl rfl rfl; exact fI rfl)
      (apply wls; exact sf_slice hp rfl rfl rfl rfl rfl rfl rfl; rintro _ w3 ⟨nb, rfl, hp⟩)
      (apply wls; exact sf_app1 eB Z (x / 256 ^ i % 256) hp 1 0 rfl rfl rfl rfl rfl rfl (fun _ => rfl) rfl rfl rfl hv rfl rfl (by omega); rintro _ w4 ⟨s', c', rfl, hv', hp⟩)
      have hp := hp.tail
      have hp : Hp w [] w4 [ownL eB 5 1 s' c' (Z ++ [x / 256 ^ i % 256])] := hp
      rw [← hdr] at hv' hp ⊢
      (repeat (first | (with_reducible first | apply WP_region | apply wpl_nil | apply thenQ_n | apply inBlk_n) | (apply wlp; (first | apply pv_move | apply pv_assign); (first | exact fI rfl | exact fS rfl))))
      (apply wlp; exact pv_sub rfl rfl; exact int_eq (i64_in (by omega) (by omega)))
      (repeat (first | (with_reducible first | apply wpl_nil | apply thenQ_n) | (apply wlp; apply pv_assign; exact fI rfl)))
      exact ⟨i, s', c', put_self (put_self (Same.eq (by repeat (first | exact Same.hav | exact Same.refl | refine Same.put rfl ?_ | refine Same.havs rfl ?_))) (int_eq (by omega))) rfl, ⟨by omega, hv', hp⟩, by omega⟩
    · obtain rfl : j = 0 := by omega
      rw [List.drop_zero] at hv hp ⊢
      have hne : (dg 256 x 8).reverse ≠ [] := by
        intro h
        have := congrArg List.length h
        rw [List.length_reverse, dg_len] at this
        cases this
      obtain ⟨bb, rfl⟩ := hv.addr hne
      have h67 := c67 (dg 256 x 8).reverse
      rw [strip_dg hx8] at h67
      have hbd : Bd 256 (dg 256 x 8).reverse := Bd.rev (dg_bd (by decide) 8 x)
      (repeat (with_reducible first | apply WP_seq | apply WP_region))
      (apply wlp; apply pv_move; exact fI rfl)
      (apply wlp; (exact pv_geq rfl rfl); exact bool_eq (b := false) (decide_eq_false (by omega)))
      (repeat (first | (with_reducible first | apply wpl_nil | apply thenQ_n) | (apply wlp; (intros; (first | apply pv_move | exact pv_andF rfl)); (intros; exact fB rfl)) | (apply wlpF; exact rfl; exact rfl; exact rfl) | (apply wlpU; exact rfl; exact rfl)))
      refine WP_cond_f rfl ?_
      (repeat (first | (with_reducible first | apply WP_seq | apply WP_region | apply thenQ_n | apply thenQ_exit | apply WP_exit) | ((with_reducible apply inBlk_same); exact rfl) | (apply wlp; (first | apply pv_move | apply pf_conv); exact fS rfl)))
      (apply wlp; exact pf_btsL hp rfl rfl rfl rfl rfl hv; exact fT rfl)
      (apply wls; exact st_call rfl ent57 rfl (h67 _ hbd (by rw [List.length_reverse, dg_len]; decide)); rintro _ w2 ⟨rfl, hk⟩; have hp := hp.call hk)
      (repeat (first | (with_reducible first | apply wpl_nil | apply thenQ_n | apply WP_ret) | (apply wlp; apply pv_assign; exact fT rfl)))
      exact ret_tmp rfl rfl ⟨_, rfl, rfl, hp.keeps⟩
  · have hz : a.toNat = 0 := by omega
    rw [hz]
    refine WP_loopS [3, 4, 5, 6, 7, 8, 9, 10, 11, 12, 13, 14, 15, 16, 17, 18, 19] (fun (_ : Nat) F => (F.put 4 (.int .i64 56)).put 3 (.slice none 0 0)) (fun _ w' => Hp w [] w' [ownL eB 5 1 none 0 []]) (fun _ => 0) 0 (put_self (put_self (Same.eq .refl) rfl) rfl) hp ?_
    clear hp
    rintro u _ w1 hp
    (repeat (with_reducible first | apply WP_seq | apply WP_region))
    (apply wlp; apply pv_move; exact fI rfl)
    (apply wlp; (exact pv_geq rfl rfl); exact bool_eq (b := true) (decide_eq_true (by omega)))
    (apply wlp; apply pv_move; exact fB rfl)
    (apply wlpT; exact rfl; exact rfl; exact pv_move; exact fI rfl)
    (apply wlpT; exact rfl; exact rfl; (exact pv_gtr rfl rfl); exact bool_eq (b := false) (decide_eq_false (by omega)))
    (repeat (first | (with_reducible first | apply wpl_nil | apply thenQ_n) | (apply wlp; (intros; exact pv_andT rfl rfl); (intros; exact fB rfl)) | (apply wlpF; exact rfl; exact rfl; exact rfl) | (apply wlpU; exact rfl; exact rfl)))
    refine WP_cond_f rfl ?_
    (repeat (first | (with_reducible first | apply WP_seq | apply WP_region | apply thenQ_n | apply thenQ_exit | apply WP_exit) | ((with_reducible apply inBlk_same); exact rfl) | (apply wlp; (first | apply pv_move | apply pf_conv); exact fS rfl)))
    (apply wlp; exact pf_bts0 rfl rfl rfl; exact fT rfl)
    (apply wls; exact st_call rfl ent57 rfl (c67 [] _ .nil (by simp)); rintro _ w2 ⟨rfl, hk⟩; have hp := hp.call hk)
    (repeat (first | (with_reducible first | apply wpl_nil | apply thenQ_n | apply WP_ret) | (apply wlp; apply pv_assign; exact fT rfl)))
    exact ret_tmp rfl rfl ⟨_, rfl, rfl, hp.keeps⟩
end Go.Proofs.YtfjbioghpgmkiaaGreatDoor

/- sortesref01: Int, small, Cmp, of, number; conditions: the numbers are short. -/
namespace Go.Proofs.YtfjbioghpgmkiaaGreatDoor
open Go.Eng Go.Dig

def eD (d : Nat) : List Value := [.int .i64 (d : Int)]
/-- digits to the base 2^24 -/
def d24 (x : Nat) : List Nat := digs 16777216 x
theorem d24_bd (x : Nat) : Bd 16777216 (d24 x) := digs_bd (by decide) x
theorem d24_val (x : Nat) : val 16777216 (d24 x) = x := digs_val (by decide) x
theorem d24_get {x i : Nat} (h : i < (d24 x).length) : (d24 x)[i] = x / 16777216 ^ i % 16777216 := digs_get (by decide) h
theorem d24_beyond {x i : Nat} (h : (d24 x).length ≤ i) : x / 16777216 ^ i % 16777216 = 0 := digs_beyond (by decide) h
theorem d24_lt {x i : Nat} (h : (d24 x).length ≤ i) : x < 16777216 ^ i := lt_of_len (by decide) h
theorem d24_len {x i : Nat} (h : x < 16777216 ^ i) : (d24 x).length ≤ i := len_of_lt (by decide) h
theorem Fit.d24 {x : Nat} (h : Fit x) : (d24 x).length ≤ 100000 := by
  obtain ⟨k, h1, h2⟩ := h
  exact Nat.le_trans (d24_len (Nat.lt_of_lt_of_le h2 (Nat.pow_le_pow_left (by decide) k))) (by omega)
theorem len_eq {b x m : Nat} (hb : 1 < b) (h1 : b ^ m ≤ x) (h2 : x < b ^ (m + 1)) : (digs b x).length = m + 1 := by
  have h3 := len_of_lt hb h2
  rcases Nat.lt_or_ge (digs b x).length (m + 1) with h | h
  · have := lt_of_len hb (show (digs b x).length ≤ m by omega)
    omega
  · omega
theorem pow_len {x : Nat} (h : x ≠ 0) : 256 ^ ((digs 256 x).length - 1) ≤ x := by
  rcases Nat.lt_or_ge x (256 ^ ((digs 256 x).length - 1)) with h1 | h1
  · have h2 := len_of_lt (b := 256) (by decide) h1
    have h3 : (digs 256 x).length ≠ 0 := by
      intro h4
      exact h ((digs_eq_nil (b := 256) (by decide)).1 (List.eq_nil_of_length_eq_zero h4))
    omega
  · exact h1
theorem pow24 (j : Nat) : 16777216 ^ j = 256 ^ (3 * j) := by rw [Nat.pow_mul]
/-- the number of digits to the base 2^24 -/
theorem d24_eq {x m : Nat} (h1 : 3 * m < (digs 256 x).length) (h2 : (digs 256 x).length ≤ 3 * (m + 1)) : (d24 x).length = m + 1 := by
  have hx : x ≠ 0 := by
    rintro rfl
    simp [digs_zero] at h1
  refine len_eq (by decide) ?_ ?_
  · rw [pow24]
    exact Nat.le_trans (Nat.pow_le_pow_right (by decide) (by omega)) (pow_len hx)
  · rw [pow24]
    exact lt_of_len (by decide) h2
theorem mod_next (y t : Nat) : (y / 256 % 256 ^ t) * 256 + y % 256 = y % 256 ^ (t + 1) := by
  rw [Nat.pow_succ, Nat.mul_comm (256 ^ t) 256, Nat.mod_mul]
  omega
theorem rev_at {x i : Nat} (hi : i < (digs 256 x).length) (h : i < (digs 256 x).reverse.length) : (digs 256 x).reverse[i] = x / 256 ^ ((digs 256 x).length - 1 - i) % 256 := by
  have h1 := b8_rev (x := x) (i := (digs 256 x).length - 1 - i) (by omega) (by rw [List.length_reverse]; omega)
  have e : (digs 256 x).length - 1 - ((digs 256 x).length - 1 - i) = i := by omega
  rw [← h1]
  congr 1
  exact e.symm

attribute [local irreducible] PV StepF wpl wpd WP Ret
attribute [local irreducible] Fit

theorem c88S (st : ByteArray) (x : Nat) (w : World) (hst : NS st x) (hl : (digs 256 x).length ≤ 7) : Ret Tryz.prog 66 [.string st] w (fun v w' => v = .tuple #[.int .i64 (x : Int), .bool true] ∧ Keeps [] w w') := by
  have hx7 : x < 256 ^ 7 := lt_of_len (by decide) hl
  have e7 : (256 : Nat) ^ 7 = 72057594037927936 := by decide
  have hxl := lt_of_len (b := 256) (by decide) (Nat.le_refl (digs 256 x).length)
  have hbd : Bd 256 (digs 256 x).reverse := Bd.rev (digs_bd (by decide) x)
  have hrl : (digs 256 x).reverse.length = (digs 256 x).length := List.length_reverse
  refine Ret.of_WP Tryz.func66 rfl Tryz.ntmps66 rfl ?_
  have hp := Hp.start (M := []) (w := w)
  (repeat (first | (with_reducible first | apply WP_seq | apply WP_region | apply wpl_nil | apply thenQ_n) | (apply wlp; (first | apply pv_move | apply pv_assign); (first | exact fI rfl | exact fB rfl | exact fT rfl))))
  (apply wls; exact st_call rfl ent57 rfl (c67S st x _ hst); rintro _ w1 ⟨rfl, hk⟩; have hp := hp.call hk)
  skip
  (apply wlp; apply pv_assign; exact fT rfl)
  (repeat (with_reducible first | apply WP_seq | apply WP_region | apply wpl_nil | apply thenQ_n))
  (apply wlp; apply pv_move; exact fT rfl)
  (apply wlp; exact pf_lenb rfl rfl; exact int_eq (b := ((digs 256 x).length : Int)) (by rw [hrl]))
  (apply wlp; (exact pv_gtr rfl rfl); exact bool_eq (b := false) (decide_eq_false (by omega)))
  (apply wlp; apply pv_move; exact fB rfl)
  (apply wlpT; exact rfl; exact rfl; exact pv_move; exact fT rfl)
  (apply wlpT; exact rfl; exact rfl; exact pf_lenb rfl rfl; exact int_eq (b := ((digs 256 x).length : Int)) (by rw [hrl]))
  (apply wlpT; exact rfl; exact rfl; (exact pv_eql rfl rfl); exact bool_eq (b := false) (decide_eq_false (by omega)))
  (repeat (first | (with_reducible first | apply wpl_nil | apply thenQ_n) | (apply wlp; (intros; (first | apply pv_move | exact pv_andF rfl | exact pv_orF rfl rfl)); (intros; exact fB rfl)) | ((apply wlpT; exact rfl; exact rfl); ((first | apply pv_move | exact pv_andF rfl | exact pv_orF rfl rfl)); (intros; exact fB rfl)) | (apply wlpF; exact rfl; exact rfl; exact rfl) | (apply wlpU; exact rfl; exact rfl)))
  refine WP_cond_f rfl ?_
  (repeat (first | (with_reducible first | apply WP_seq | apply WP_block | apply WP_region | apply wpl_nil | apply thenQ_n | apply WP_skip) | (apply wlp; apply pv_assign; exact fI rfl)))
  refine WP_loopS [4, 5, 21, 22, 23, 24, 25, 26, 27, 28, 29, 30, 31, 32, 33] (fun (k : Nat) F => (F.put 5 (.int .i64 (k : Int))).put 4 (.int .i64 ((x / 256 ^ ((digs 256 x).length - k) : Nat) : Int))) (fun k w' => k ≤ (digs 256 x).length ∧ Hp w [] w' []) (fun k => (digs 256 x).length - k) 0 (put_self (put_self (Same.eq .refl) rfl) (int_eq (by rw [Nat.sub_zero, Nat.div_eq_of_lt hxl]; rfl))) ⟨Nat.zero_le _, hp⟩ ?_
  clear hp
  rintro u k w2 ⟨hk, hp⟩
  (repeat (with_reducible first | apply WP_seq | apply WP_region))
  (apply wlp; apply pv_move; exact fI rfl)
  (apply wlp; apply pv_move; exact fT rfl)
  (apply wlp; exact pf_lenb rfl rfl; exact int_eq (b := ((digs 256 x).length : Int)) (by rw [hrl]))
  (repeat (first | (with_reducible first | apply wpl_nil | apply thenQ_n) | (apply wlp; (apply pv_lss <;> exact rfl); exact fB rfl)))
  refine WP_cond_d rfl (fun h => ?_) (fun h => ?_)
  · have hlt : k < (digs 256 x).length := by omega
    have hlr : k < (digs 256 x).reverse.length := by omega
    have hra := rev_at hlt hlr
    have hlb := hbd.get hlr
    have hst : x / 256 ^ ((digs 256 x).length - (k + 1)) = x / 256 ^ ((digs 256 x).length - k) * 256 + (digs 256 x).reverse[k] := by
      rw [hra, show (digs 256 x).length - 1 - k = (digs 256 x).length - (k + 1) from by omega, show (digs 256 x).length - k = (digs 256 x).length - (k + 1) + 1 from by omega, Nat.pow_succ, ← Nat.div_div_eq_div_mul]
      omega
    have hle : x / 256 ^ ((digs 256 x).length - (k + 1)) ≤ x := Nat.div_le_self _ _
    (repeat (first | (with_reducible first | apply WP_seq | apply WP_block | apply WP_region | apply thenQ_n | apply WP_skip) | (apply wlp; apply pv_move; exact fI rfl)))
    (apply wlp; exact pv_shl (b := 8) rfl rfl (by decide); exact int_eq (b := ((x / 256 ^ ((digs 256 x).length - k) * 256 : Nat) : Int)) (by
      have e8 : min (8 : Int).toNat IntKind.i64.bits = 8 := by decide
      rw [e8, i64_in (by omega) (by omega)]
      omega))
    (apply wlp; apply pv_move; exact fT rfl)
    (apply wlp; apply pv_move; exact fI rfl)
    (apply wlp; exact pf_at rfl rfl rfl hbd hlr; exact fI rfl)
    (apply wlp; exact pf_conv rfl rfl rfl; exact int_eq (b := (((digs 256 x).reverse[k] : Nat) : Int)) (i64_in (by omega) (by omega)))
    (apply wlp; exact pv_add rfl rfl; exact int_eq (b := ((x / 256 ^ ((digs 256 x).length - (k + 1)) : Nat) : Int)) (by rw [i64_in (by omega) (by omega)]; omega))
    (repeat (first | (with_reducible first | apply WP_region | apply wpl_nil | apply thenQ_n | apply inBlk_n) | (apply wlp; (first | apply pv_move | apply pv_assign); exact fI rfl)))
    (apply wlp; exact pv_add rfl rfl; exact int_eq (i64_in (by omega) (by omega)))
    (repeat (first | (with_reducible first | apply wpl_nil | apply thenQ_n) | (apply wlp; apply pv_assign; exact fI rfl)))
    exact ⟨k + 1, put_self (put_self (Same.eq (by repeat (first | exact Same.hav | exact Same.refl | refine Same.put rfl ?_ | refine Same.havs rfl ?_))) rfl) rfl, ⟨by omega, hp⟩, by omega⟩
  · obtain rfl : k = (digs 256 x).length := by omega
    rw [Nat.sub_self, Nat.pow_zero, Nat.div_one]
    (repeat (first | (with_reducible first | apply WP_seq | apply WP_region | apply wpl_nil | apply thenQ_n | apply thenQ_exit | apply WP_ret | apply WP_exit) | ((with_reducible apply inBlk_same); exact rfl) | (apply wlp; (first | apply pv_move | apply pv_assign); (first | exact fI rfl | exact fB rfl))))
    exact ret_tmp2 rfl rfl rfl ⟨_, rfl, rfl, hp.keeps⟩
theorem c88 (x : Nat) (w : World) (hl : (digs 256 x).length ≤ 7) (hf : Fit x) : Ret Tryz.prog 66 [.string (ofN x)] w (fun v w' => v = .tuple #[.int .i64 (x : Int), .bool true] ∧ Keeps [] w w') := c88S _ x w (NS.self hf) hl
theorem c68S (st : ByteArray) (x b : Nat) (w : World) (hst : NS st x) (hb : b ≤ 7) (_hf : Fit x) : Ret Tryz.prog 58 [.string st, .int .i64 (b : Int)] w (fun v w' => (∃ q : Bool, q = decide ((digs 256 x).length ≤ b) ∧ v = .tuple #[.int .i64 (if q then (x : Int) else 0), .bool q]) ∧ Keeps [] w w') := by
  have hrl : (digs 256 x).reverse.length = (digs 256 x).length := List.length_reverse
  refine Ret.of_WP Tryz.func58 rfl Tryz.ntmps58 rfl ?_
  have hp := Hp.start (M := []) (w := w)
  (repeat (first | (with_reducible first | apply WP_seq | apply WP_region | apply wpl_nil | apply thenQ_n) | (apply wlp; (first | apply pv_move | apply pv_assign); (first | exact fI rfl | exact fB rfl | exact fT rfl))))
  (apply wls; exact st_call rfl ent57 rfl (c67S st x _ hst); rintro _ w1 ⟨rfl, hk⟩; have hp := hp.call hk)
  (apply wlp; exact pf_lenb (l := (digs 256 x).reverse) rfl rfl; exact int_eq (b := ((digs 256 x).length : Int)) (by rw [hrl]))
  (repeat (first | (with_reducible first | apply wpl_nil | apply thenQ_n) | (apply wlp; ((first | apply pv_move | apply pv_gtr) <;> exact rfl); (first | exact fI rfl | exact fB rfl))))
  refine WP_cond_d rfl (fun h => ?_) (fun h => ?_)
  · (repeat (first | (with_reducible first | apply WP_seq | apply WP_region | apply wpl_nil | apply thenQ_n | apply thenQ_ret | apply WP_ret) | (apply wlp; apply pv_assign; (first | exact fI rfl | exact fB rfl))))
    exact ret_tmp2 rfl rfl rfl ⟨_, rfl, ⟨false, (decide_eq_false (by omega)).symm, rfl⟩, hp.keeps⟩
  · (repeat (first | (with_reducible first | apply WP_seq | apply WP_region | apply thenQ_n | apply WP_skip) | (apply wlp; apply pv_move; exact fT rfl)))
    (apply wls; exact st_call rfl ent66 rfl (c88S st x _ hst (by omega)); rintro _ w2 ⟨rfl, hk⟩; have hp := hp.call hk)
    (repeat (first | (with_reducible first | apply wpl_nil | apply thenQ_n | apply WP_ret) | (apply wlp; ((first | apply pv_assign | apply pv_extract) <;> exact rfl); (first | exact fI rfl | exact fB rfl))))
    exact ret_tmp2 rfl rfl rfl ⟨_, rfl, ⟨true, (decide_eq_true (by omega)).symm, rfl⟩, hp.keeps⟩
theorem c68 (x b : Nat) (w : World) (hb : b ≤ 7) (hf : Fit x) : Ret Tryz.prog 58 [.string (ofN x), .int .i64 (b : Int)] w (fun v w' => (∃ q : Bool, q = decide ((digs 256 x).length ≤ b) ∧ v = .tuple #[.int .i64 (if q then (x : Int) else 0), .bool q]) ∧ Keeps [] w w') := c68S _ x b w (NS.self hf) hb hf
end Go.Proofs.YtfjbioghpgmkiaaGreatDoor

/- sortesref01: Cmp, of, number; conditions: the numbers are short. -/
namespace Go.Proofs.YtfjbioghpgmkiaaGreatDoor
open Go.Eng Go.Dig

theorem vb_cons (x : Nat) (l : List Nat) : val 256 (x :: l).reverse = val 256 l.reverse + 256 ^ l.length * x := by
  rw [List.reverse_cons, val_append, List.length_reverse, val_single]
theorem less_bs : ∀ {l m : List Nat}, Bd 256 l → Bd 256 m → l.length = m.length → Op.bytesLess (l.map UInt8.ofNat) (m.map UInt8.ofNat) = decide (val 256 l.reverse < val 256 m.reverse)
  | [], [], _, _, _ => rfl
  | [], y :: m, _, _, h => by simp at h
  | x :: l, [], _, _, h => by simp at h
  | x :: l, y :: m, hl, hm, h => by
    have ih := less_bs hl.tail hm.tail (by simpa using h)
    have hx := hl.head
    have hy := hm.head
    have h1 := val_lt (Bd.rev hl.tail)
    have h2 := val_lt (Bd.rev hm.tail)
    have hlen : l.length = m.length := by simpa using h
    rw [List.length_reverse] at h1 h2
    rw [vb_cons, vb_cons, ← hlen]
    rw [← hlen] at h2
    have ex : (UInt8.ofNat x).toNat = x := by simp; omega
    have ey : (UInt8.ofNat y).toNat = y := by simp; omega
    simp only [List.map_cons, Op.bytesLess]
    generalize 256 ^ l.length = P at *
    rcases Nat.lt_trichotomy x y with hxy | hxy | hxy
    · have h3 : P * (x + 1) ≤ P * y := Nat.mul_le_mul_left P hxy
      rw [Nat.mul_add] at h3
      have h4 : (UInt8.ofNat x) < (UInt8.ofNat y) := by rw [UInt8.lt_iff_toNat_lt, ex, ey]; exact hxy
      have h5 : val 256 l.reverse + P * x < val 256 m.reverse + P * y := by omega
      simp [h4, h5]
    · subst hxy
      have h4 : ¬ (UInt8.ofNat x) < (UInt8.ofNat x) := by rw [UInt8.lt_iff_toNat_lt]; omega
      simp only [h4, ih]
      simp
    · have h3 : P * (y + 1) ≤ P * x := Nat.mul_le_mul_left P hxy
      rw [Nat.mul_add] at h3
      have h4 : (UInt8.ofNat y) < (UInt8.ofNat x) := by rw [UInt8.lt_iff_toNat_lt, ex, ey]; exact hxy
      have h5 : ¬ (UInt8.ofNat x) < (UInt8.ofNat y) := by rw [UInt8.lt_iff_toNat_lt, ex, ey]; omega
      have h6 : (UInt8.ofNat x) ≠ (UInt8.ofNat y) := by
        intro e
        have := congrArg UInt8.toNat e
        rw [ex, ey] at this
        omega
      have h7 : ¬ val 256 l.reverse + P * x < val 256 m.reverse + P * y := by omega
      rw [decide_eq_false h7, decide_eq_false h5, beq_eq_false_iff_ne.2 h6]
      rfl
section
variable {P : Program} {n : Nat} {F : Fr} {w : World} {d : Option Tmp} {ty : TypeId} {pos : String} {aft : Array Edge} {g : Option (Nat × Bool)} {x y : Operand} {t t' : Nat} {a b : ByteArray}
theorem pv_slss (hx : ev n F x = .string a) (hy : ev n F y = .string b) : PV P n w F ⟨d, .binOp .lss t x y t', ty, pos, aft, g⟩ (.bool (Op.bytesLess a.toList b.toList)) := by
  simp [PV, execOp, hx, hy, eqGuard, binOp, Op.stringOp]
theorem pv_sgtr (hx : ev n F x = .string a) (hy : ev n F y = .string b) : PV P n w F ⟨d, .binOp .gtr t x y t', ty, pos, aft, g⟩ (.bool (!(Op.bytesLess a.toList b.toList || decide (a = b)))) := by
  rw [← bytes_beq]
  simp [PV, execOp, hx, hy, eqGuard, binOp, Op.stringOp]
end
theorem less_ofN {x y : Nat} (h : (digs 256 x).length = (digs 256 y).length) : Op.bytesLess (ofN x).toList (ofN y).toList = decide (x < y) := by
  have e : ∀ z, (ofN z).toList = (digs 256 z).reverse.map UInt8.ofNat := by
    intro z
    rw [ByteArray.toList_eq]
    simp [ofN]
  rw [e, e, less_bs (Bd.rev (digs_bd (by decide) x)) (Bd.rev (digs_bd (by decide) y)) (by simpa using h), List.reverse_reverse, List.reverse_reverse, digs_val (by decide), digs_val (by decide)]

attribute [local irreducible] PV StepF wpl wpd WP Ret
attribute [local irreducible] Fit

theorem c50S (sx sy : ByteArray) (x y : Nat) (w : World) (hx : NS sx x) (hy : NS sy y) : Ret Tryz.prog 25 [.string sx, .string sy] w (fun v w' => v = .int .i64 (if x < y then -1 else if x = y then 0 else 1) ∧ Keeps [] w w') := by
  have hsx := ofN_size x
  have hsy := ofN_size y
  refine Ret.of_WP Tryz.func25 rfl Tryz.ntmps25 rfl ?_
  have hp := Hp.start (M := []) (w := w)
  (repeat (first | (with_reducible first | apply WP_seq | apply WP_region | apply wpl_nil | apply thenQ_n) | (apply wlp; (first | apply pv_move | apply pv_assign); (first | exact fI rfl | exact fT rfl))))
  (apply wls; exact st_call rfl ent57 rfl (c67S sx x _ hx); rintro _ w1 ⟨rfl, hk⟩; have hp := hp.call hk)
  (repeat (first | (with_reducible first | apply WP_seq | apply WP_region | apply wpl_nil | apply thenQ_n) | (apply wlp; (first | apply pv_move | apply pv_assign); exact fT rfl)))
  (apply wls; exact st_call rfl ent57 rfl (c67S sy y _ hy); rintro _ w2 ⟨rfl, hk⟩; have hp := hp.call hk)
  (repeat (first | (with_reducible first | apply WP_seq | apply WP_region | apply wpl_nil | apply thenQ_n) | (apply wlp; ((first | apply pv_move | apply pv_assign | (apply pf_lens; exact rfl) | (apply pv_neq; (first | exact rfl | exact ev_sel rfl (by assumption)))) <;> exact rfl); (first | exact fI rfl | exact fB rfl | exact fT rfl))))
  refine WP_cond_nd rfl (fun h => ?_) (fun h => ?_)
  · (repeat (first | (with_reducible first | apply WP_seq | apply WP_region | apply wpl_nil | apply thenQ_n) | (apply wlp; ((first | apply pv_move | (apply pf_lens; exact rfl) | apply pv_lss) <;> exact rfl); (first | exact fI rfl | exact fB rfl | exact fT rfl))))
    refine WP_cond_d rfl (fun h2 => ?_) (fun h2 => ?_)
    · have hlt : x < y := digs_len_lt (b := 256) (by decide) (by omega)
      (repeat (first | (with_reducible first | apply WP_seq | apply WP_region | apply wpl_nil | apply thenQ_n | apply thenQ_ret | apply WP_ret) | (apply wlp; apply pv_assign; exact fI rfl)))
      exact ret_tmp rfl rfl ⟨_, rfl, int_eq (by rw [if_pos hlt]), hp.keeps⟩
    · have hlt : y < x := digs_len_lt (b := 256) (by decide) (by omega)
      (repeat (first | (with_reducible first | apply WP_seq | apply WP_region | apply wpl_nil | apply thenQ_n | apply thenQ_ret | apply WP_ret | apply WP_skip) | (apply wlp; apply pv_assign; exact fI rfl)))
      exact ret_tmp rfl rfl ⟨_, rfl, int_eq (by rw [if_neg (by omega), if_neg (by omega)]), hp.keeps⟩
  · have hl : (digs 256 x).length = (digs 256 y).length := by omega
    have hle := less_ofN hl
    have heq := ofN_eq x y
    (repeat (first | (with_reducible first | apply WP_seq | apply WP_region | apply thenQ_n | apply WP_skip) | (apply wlp; (first | apply pv_move | apply pv_lss); exact fT rfl)))
    (apply wlp; exact pv_slss rfl rfl; exact bool_eq (b := decide (x < y)) hle)
    (repeat (with_reducible first | apply wpl_nil | apply thenQ_n))
    refine WP_cond_d rfl (fun h2 => ?_) (fun h2 => ?_)
    · (repeat (first | (with_reducible first | apply WP_seq | apply WP_region | apply wpl_nil | apply thenQ_n | apply thenQ_ret | apply WP_ret) | (apply wlp; apply pv_assign; exact fI rfl)))
      exact ret_tmp rfl rfl ⟨_, rfl, int_eq (by rw [if_pos h2]), hp.keeps⟩
    · (repeat (first | (with_reducible first | apply WP_seq | apply WP_region | apply thenQ_n | apply WP_skip) | (apply wlp; (first | apply pv_move | apply pv_gtr); exact fT rfl)))
      (apply wlp; exact pv_sgtr rfl rfl; exact bool_eq (b := (!decide (x = y))) (by rw [hle, heq, decide_eq_false h2]; rfl))
      (repeat (with_reducible first | apply wpl_nil | apply thenQ_n))
      refine WP_cond_nd rfl (fun h3 => ?_) (fun h3 => ?_)
      · (repeat (first | (with_reducible first | apply WP_seq | apply WP_region | apply wpl_nil | apply thenQ_n | apply thenQ_ret | apply WP_ret) | (apply wlp; apply pv_assign; exact fI rfl)))
        exact ret_tmp rfl rfl ⟨_, rfl, int_eq (by rw [if_neg h2, if_neg h3]), hp.keeps⟩
      · (repeat (first | (with_reducible first | apply WP_seq | apply WP_region | apply wpl_nil | apply thenQ_n | apply WP_ret | apply WP_skip) | (apply wlp; apply pv_assign; exact fI rfl)))
        exact ret_tmp rfl rfl ⟨_, rfl, int_eq (by rw [if_neg h2, if_pos h3]), hp.keeps⟩
theorem c50 (x y : Nat) (w : World) (hx : Fit x) (hy : Fit y) : Ret Tryz.prog 25 [.string (ofN x), .string (ofN y)] w (fun v w' => v = .int .i64 (if x < y then -1 else if x = y then 0 else 1) ∧ Keeps [] w w') := c50S _ _ x y w (NS.self hx) (NS.self hy)
theorem c69S (st : ByteArray) (x : Nat) (w : World) (hst : NS st x) (hx : Fit x) : Ret Tryz.prog 59 [.string st] w (fun v w' => ∃ s c, v = .slice s (d24 x).length c ∧ SVL s c (d24 x) ∧ Hp w [] w' [ownL eD 3 1 s c (d24 x)]) := by
  have hL8 := hx.d8
  have hxl := lt_of_len (b := 256) (by decide) (Nat.le_refl (digs 256 x).length)
  have hbd : Bd 256 (digs 256 x).reverse := Bd.rev (digs_bd (by decide) x)
  have hrl : (digs 256 x).reverse.length = (digs 256 x).length := List.length_reverse
  have hra := fun i hi h => rev_at (x := x) (i := i) hi h
  have hdn : ∀ j, 3 * j < (digs 256 x).length + 3 → (digs 256 x).length ≤ 3 * j → dg 16777216 x j = d24 x := by
    intro j h1 h2
    have hlj : (d24 x).length = j := by
      cases j with
      | zero =>
        have : x = 0 := (digs_eq_nil (b := 256) (by decide)).1 (List.eq_nil_of_length_eq_zero (by omega))
        subst this
        rfl
      | succ m => exact d24_eq (by omega) (by omega)
    have := dg_of_val (d24_bd x)
    rw [d24_val, hlj] at this
    exact this.symm
  refine Ret.of_WP Tryz.func59 rfl Tryz.ntmps59 rfl ?_
  have hp := (Hp.start (M := []) (w := w)).nilL eD 3 1
  (repeat (first | (with_reducible first | apply WP_seq | apply WP_region | apply wpl_nil | apply thenQ_n) | (apply wlp; (first | apply pv_move | apply pv_assign); (first | exact fS rfl | exact fT rfl))))
  (apply wls; exact st_call rfl ent57 rfl (c67S st x _ hst); rintro _ w1 ⟨rfl, hk⟩; have hp := hp.call hk)
  skip
  (apply wlp; apply pv_assign; exact fT rfl)
  (repeat (with_reducible first | apply WP_seq | apply WP_region | apply wpl_nil | apply thenQ_n))
  (apply wlp; apply pv_assign; exact fS rfl)
  (repeat (with_reducible first | apply WP_seq | apply WP_region | apply wpl_nil | apply thenQ_n))
  (apply wlp; apply pv_move; exact fT rfl)
  (apply wlp; exact pf_lenb (l := (digs 256 x).reverse) rfl rfl; exact int_eq (b := ((digs 256 x).length : Int)) (by rw [hrl]))
  generalize hL : (digs 256 x).length = L at *
  (repeat (first | (with_reducible first | apply WP_block | apply wpl_nil | apply thenQ_n) | (apply wlp; apply pv_assign; exact fI rfl)))
  refine WP_loop3 [3, 4, 5, 6, 11, 12, 13, 14, 15, 16, 17, 18, 19, 20, 21, 22, 23, 24, 25, 26, 27, 28, 29, 30, 31, 32, 33] (fun (j : Nat) (s : Option Addr) (c : Nat) F => (F.put 4 (.int .i64 ((L : Int) - 3 * j))).put 3 (.slice s (dg 16777216 x j).length c))
    (fun j s c w' => 3 * j < L + 3 ∧ SVL s c (dg 16777216 x j) ∧ Hp w [] w' [ownL eD 3 1 s c (dg 16777216 x j)]) (fun j _ _ => L + 3 - 3 * j) 0 none 0 (put_self (put_self (Same.eq .refl) (int_eq (by omega))) rfl) ⟨by omega, SVL.nil, hp⟩ ?_
  clear hp
  rintro u j s c w2 ⟨hj, hv, hp⟩
  (repeat (first | (with_reducible first | apply WP_seq | apply WP_region | apply wpl_nil | apply thenQ_n) | (apply wlp; ((first | apply pv_move | apply pv_gtr) <;> exact rfl); (first | exact fI rfl | exact fB rfl))))
  refine WP_cond_d rfl (fun h => ?_) (fun h => ?_)
  · obtain ⟨e, he⟩ : ∃ e : Nat, e = L - 3 * j := ⟨_, rfl⟩
    have eL : (L : Int) - 3 * (j : Int) = (e : Int) := by omega
    rw [eL]
    have hll : (dg 16777216 x j).length ≤ 100000 := by rw [dg_len]; omega
    (repeat (first | (with_reducible first | apply WP_seq | apply WP_block | apply WP_region | apply wpl_nil | apply thenQ_n | apply WP_skip) | (apply wlp; (first | apply pv_move | apply pv_assign); exact fI rfl)))
    (apply wlp; exact pv_sub rfl rfl; exact int_eq (i64_in (by omega) (by omega)))
    (apply wlp; exact pv_max rfl rfl; exact int_eq (b := ((e - 3 : Nat) : Int)) (by omega))
    (repeat (first | (with_reducible first | apply WP_block | apply wpl_nil | apply thenQ_n) | (apply wlp; apply pv_assign; exact fI rfl)))
    refine WP_loopS [5, 6, 18, 19, 20, 21, 22, 23, 24, 25, 26, 27, 28, 29] (fun (k : Nat) F => (F.put 6 (.int .i64 (k : Int))).put 5 (.int .i64 ((x / 256 ^ (L - k) % 256 ^ (k - (e - 3)) : Nat) : Int))) (fun k w' => e - 3 ≤ k ∧ k ≤ e ∧ Hp w [] w' [ownL eD 3 1 s c (dg 16777216 x j)]) (fun k => e - k) (e - 3) (put_self (put_self (Same.eq .refl) rfl) (int_eq (by rw [Nat.sub_self, Nat.pow_zero, Nat.mod_one]; rfl))) ⟨Nat.le_refl _, by omega, hp⟩ ?_
    clear hp
    rintro u2 k w3 ⟨hk1, hk2, hp⟩
    (repeat (first | (with_reducible first | apply WP_seq | apply WP_region | apply wpl_nil | apply thenQ_n) | (apply wlp; ((first | apply pv_move | apply pv_lss) <;> exact rfl); (first | exact fI rfl | exact fB rfl))))
    refine WP_cond_d rfl (fun h2 => ?_) (fun h2 => ?_)
    · have hkl : k < (digs 256 x).reverse.length := by omega
      have hrk := hra k (by omega) hkl
      have hlb := hbd.get hkl
      have hmn := mod_next (x / 256 ^ (L - 1 - k)) (k - (e - 3))
      rw [Nat.div_div_eq_div_mul, ← Nat.pow_succ, show (L - 1 - k).succ = L - k from by omega, ← hrk, show k - (e - 3) + 1 = k + 1 - (e - 3) from by omega, show L - 1 - k = L - (k + 1) from by omega] at hmn
      have hd1 : x / 256 ^ (L - k) % 256 ^ (k - (e - 3)) < 65536 := by
        refine Nat.lt_of_lt_of_le (Nat.mod_lt _ (Nat.pow_pos (by decide))) ?_
        exact Nat.le_trans (Nat.pow_le_pow_right (by decide) (show k - (e - 3) ≤ 2 by omega)) (by decide)
      generalize x / 256 ^ (L - k) % 256 ^ (k - (e - 3)) = D at *
      (repeat (first | (with_reducible first | apply WP_seq | apply WP_block | apply WP_region | apply thenQ_n | apply WP_skip) | (apply wlp; apply pv_move; exact fI rfl)))
      (apply wlp; (exact pv_mul rfl rfl); exact int_eq (b := ((D * 256 : Nat) : Int)) (by rw [i64_in (by omega) (by omega)]; omega))
      (apply wlp; apply pv_move; exact fT rfl)
      (apply wlp; apply pv_move; exact fI rfl)
      (apply wlp; exact pf_at rfl rfl rfl hbd hkl; exact fI rfl)
      (apply wlp; exact pf_conv rfl rfl rfl; exact int_eq (b := (((digs 256 x).reverse[k] : Nat) : Int)) (i64_in (by omega) (by omega)))
      (apply wlp; exact pv_add rfl rfl; exact int_eq (b := ((x / 256 ^ (L - (k + 1)) % 256 ^ (k + 1 - (e - 3)) : Nat) : Int)) (by rw [i64_in (by omega) (by omega)]; omega))
      (repeat (first | (with_reducible first | apply WP_region | apply wpl_nil | apply thenQ_n | apply inBlk_n) | (apply wlp; (first | apply pv_move | apply pv_assign); exact fI rfl)))
      (apply wlp; exact pv_add rfl rfl; exact int_eq (i64_in (by omega) (by omega)))
      (repeat (first | (with_reducible first | apply wpl_nil | apply thenQ_n) | (apply wlp; apply pv_assign; exact fI rfl)))
      exact ⟨k + 1, put_self (put_self (Same.eq (by repeat (first | exact Same.hav | exact Same.refl | refine Same.put rfl ?_ | refine Same.havs rfl ?_))) rfl) rfl, ⟨by omega, by omega, hp⟩, by omega⟩
    · obtain rfl : k = e := by omega
      have hdig : x / 256 ^ (L - k) % 256 ^ (k - (k - 3)) = x / 16777216 ^ j % 16777216 := by
        rw [pow24, show L - k = 3 * j from by omega]
        by_cases h3 : 3 ≤ k
        · rw [show k - (k - 3) = 3 from by omega]
        · have h4 : x / 256 ^ (3 * j) < 256 ^ k := by
            rw [Nat.div_lt_iff_lt_mul (Nat.pow_pos (by decide)), ← Nat.pow_add, show k + 3 * j = L from by omega]
            exact hxl
          have h5 : x / 256 ^ (3 * j) < 16777216 := Nat.lt_of_lt_of_le h4 (Nat.le_trans (Nat.pow_le_pow_right (by decide) (show k ≤ 3 by omega)) (by decide))
          rw [show k - (k - 3) = k from by omega, Nat.mod_eq_of_lt h4, Nat.mod_eq_of_lt h5]
      rw [hdig]
      have hsn := dg_snoc 16777216 j x
      (repeat (first | (with_reducible first | apply WP_region | apply thenQ_n | apply thenQ_exit | apply WP_exit) | ((with_reducible apply inBlk_same); exact rfl) | (apply wlp; apply pv_move; (first | exact fI rfl | exact fS rfl))))
      (apply wls; exact sf_slice hp rfl rfl rfl rfl rfl rfl rfl; rintro _ w4 ⟨nb, rfl, hp⟩)
      (apply wls; exact sf_app1 eD (dg 16777216 x j) (x / 16777216 ^ j % 16777216) hp 1 0 rfl rfl rfl rfl rfl rfl (fun _ => rfl) rfl rfl rfl hv rfl rfl (by omega); rintro _ w5 ⟨s', c', rfl, hv', hp⟩)
      have hp := hp.tail
      have hp : Hp w [] w5 [ownL eD 3 1 s' c' (dg 16777216 x j ++ [x / 16777216 ^ j % 16777216])] := hp
      rw [← hsn] at hv' hp ⊢
      (repeat (first | (with_reducible first | apply WP_region | apply wpl_nil | apply thenQ_n | apply inBlk_n) | (apply wlp; (first | apply pv_move | apply pv_assign); (first | exact fI rfl | exact fS rfl))))
      (apply wlp; exact pv_sub rfl rfl; exact int_eq (i64_in (by omega) (by omega)))
      (repeat (first | (with_reducible first | apply wpl_nil | apply thenQ_n) | (apply wlp; apply pv_assign; exact fI rfl)))
      exact ⟨j + 1, s', c', put_self (put_self (Same.eq (by repeat (first | exact Same.hav | exact Same.refl | refine Same.put rfl ?_ | refine Same.havs rfl ?_))) (int_eq (by omega))) rfl, ⟨by omega, hv', hp⟩, by omega⟩
  · rw [hdn j hj (by omega)] at hv hp ⊢
    (repeat (first | (with_reducible first | apply WP_seq | apply WP_region | apply wpl_nil | apply thenQ_n | apply thenQ_exit | apply WP_ret | apply WP_exit) | ((with_reducible apply inBlk_same); exact rfl) | (apply wlp; (first | apply pv_move | apply pv_assign); exact fS rfl)))
    exact ret_tmp rfl rfl ⟨_, rfl, s, c, rfl, hv, hp⟩
theorem c69 (x : Nat) (w : World) (hx : Fit x) : Ret Tryz.prog 59 [.string (ofN x)] w (fun v w' => ∃ s c, v = .slice s (d24 x).length c ∧ SVL s c (d24 x) ∧ Hp w [] w' [ownL eD 3 1 s c (d24 x)]) := c69S _ x w (NS.self hx) hx
theorem num_step {V k : Nat} {l : List Nat} (hb : Bd 16777216 l) (hV : V = val 16777216 l) (hk : k < l.length) : ((dg 256 V (3 * l.length)).drop (3 * k)).reverse = ((dg 256 V (3 * l.length)).drop (3 * (k + 1))).reverse ++ [l[k] / 65536 % 256, l[k] / 256 % 256, l[k] % 256] := by
  have hl : (dg 256 V (3 * l.length)).length = 3 * l.length := dg_len _ _ _
  have hg := l_get hb hk
  rw [← hV, pow24] at hg
  have g : ∀ i, i < 3 → ∀ (h : 3 * k + i < (dg 256 V (3 * l.length)).length), (dg 256 V (3 * l.length))[3 * k + i] = l[k] / 256 ^ i % 256 := by
    intro i hi h
    have h1 := dg_get 256 (3 * l.length) V (3 * k + i) (by omega)
    rw [List.getElem?_eq_getElem h] at h1
    simp only [Option.some.injEq] at h1
    rw [h1, hg, Nat.pow_add, ← Nat.div_div_eq_div_mul]
    generalize V / 256 ^ (3 * k) = y
    have : i = 0 ∨ i = 1 ∨ i = 2 := by omega
    rcases this with rfl | rfl | rfl
    · simp only [Nat.pow_zero, Nat.div_one]; omega
    · simp only [Nat.pow_one]; omega
    · rw [show (256 : Nat) ^ 2 = 65536 from by decide]; omega
  have h0 : 3 * k + 0 < (dg 256 V (3 * l.length)).length := by omega
  have h1 : 3 * k + 1 < (dg 256 V (3 * l.length)).length := by omega
  have h2 : 3 * k + 2 < (dg 256 V (3 * l.length)).length := by omega
  have e0 := g 0 (by decide) h0
  have e1 := g 1 (by decide) h1
  have e2 := g 2 (by decide) h2
  rw [Nat.pow_zero, Nat.div_one] at e0
  rw [Nat.pow_one] at e1
  rw [show (256 : Nat) ^ 2 = 65536 from by decide] at e2
  have d0 := List.drop_eq_getElem_cons h0
  have d1 := List.drop_eq_getElem_cons h1
  have d2 := List.drop_eq_getElem_cons h2
  rw [e0] at d0
  rw [e1] at d1
  rw [e2] at d2
  rw [show 3 * k = 3 * k + 0 from rfl, d0, show 3 * k + 0 + 1 = 3 * k + 1 from rfl, d1, show 3 * k + 1 + 1 = 3 * k + 2 from rfl, d2, show 3 * k + 2 + 1 = 3 * (k + 1) from by omega]
  simp
theorem c70 (l : List Nat) (s : Option Addr) (c : Nat) (w : World) (hs : SlAt w 1 eD s l) (hb : Bd 16777216 l) (hl : l.length ≤ 100000) : Ret Tryz.prog 65 [.slice s l.length c] w (fun v w' => v = .string (ofN (val 16777216 l)) ∧ Keeps [] w w') := by
  obtain ⟨V, hV⟩ : ∃ V, V = val 16777216 l := ⟨_, rfl⟩
  have hVl : V < 256 ^ (3 * l.length) := by rw [hV, ← pow24]; exact val_lt hb
  rw [← hV]
  have hdl := dg_len 256 (3 * l.length) V
  have h67 := c67 (dg 256 V (3 * l.length)).reverse
  rw [strip_dg hVl] at h67
  have hbd : Bd 256 (dg 256 V (3 * l.length)).reverse := Bd.rev (dg_bd (by decide) _ V)
  refine Ret.of_WP Tryz.func65 rfl Tryz.ntmps65 rfl ?_
  have hp := (Hp.start (M := []) (w := w)).nilL eB 5 1
  (repeat (first | (with_reducible first | apply WP_seq | apply WP_region | apply wpl_nil | apply thenQ_n) | (apply wlp; ((first | apply pv_move | apply pv_assign | (apply pf_len; exact rfl)) <;> exact rfl); (first | exact fI rfl | exact fS rfl | exact fT rfl))))
  (apply wlp; exact pv_sub rfl rfl; exact int_eq (i64_in (by omega) (by omega)))
  (repeat (first | (with_reducible first | apply WP_block | apply wpl_nil | apply thenQ_n) | (apply wlp; apply pv_assign; exact fI rfl)))
  refine WP_loop3 [3, 4, 8, 9, 10, 11, 12, 13, 14, 15, 16, 17, 18, 19, 20, 21, 22, 23, 24, 25, 26, 27, 28, 29, 30, 31] (fun (k : Nat) (s : Option Addr) (c : Nat) F => (F.put 4 (.int .i64 ((k : Int) - 1))).put 3 (.slice s ((dg 256 V (3 * l.length)).drop (3 * k)).reverse.length c))
    (fun k s c w' => k ≤ l.length ∧ SVL s c ((dg 256 V (3 * l.length)).drop (3 * k)).reverse ∧ Hp w [] w' [ownL eB 5 1 s c ((dg 256 V (3 * l.length)).drop (3 * k)).reverse]) (fun k _ _ => k) l.length none 0 (put_self (put_self (Same.eq .refl) rfl) (by rw [List.drop_of_length_le (by omega)]; rfl)) ⟨Nat.le_refl _, by rw [List.drop_of_length_le (by omega)]; exact SVL.nil, by rw [List.drop_of_length_le (by omega)]; exact hp⟩ ?_
  clear hp
  rintro u k s2 c2 w1 ⟨hk, hv, hp⟩
  (repeat (first | (with_reducible first | apply WP_seq | apply WP_region | apply wpl_nil | apply thenQ_n) | (apply wlp; ((first | apply pv_move | apply pv_geq) <;> exact rfl); (first | exact fI rfl | exact fB rfl))))
  refine WP_cond_d rfl (fun h => ?_) (fun h => ?_)
  · obtain ⟨j, rfl⟩ : ∃ j, k = j + 1 := ⟨k - 1, by omega⟩
    have hlt : j < l.length := by omega
    have hst := num_step hb hV hlt
    obtain ⟨b0, o0, hs0, hc0⟩ := hs.base (by omega)
    have hci := hc0 j _ (List.getElem?_eq_getElem hlt) 0 _ rfl
    have hdb := hb.get hlt
    have ej : ((j + 1 : Nat) : Int) - 1 = (j : Int) := by omega
    rw [ej]
    generalize l[j] = D at *
    have hci : w.cell? ⟨b0, o0 + j * 1, none⟩ = some (.int .i64 (D : Int)) := hci
    have hll : ((dg 256 V (3 * l.length)).drop (3 * (j + 1))).reverse.length ≤ 300000 := by rw [List.length_reverse, List.length_drop]; omega
    generalize ((dg 256 V (3 * l.length)).drop (3 * (j + 1))).reverse = Z at *
    (repeat (with_reducible first | apply WP_seq | apply WP_block | apply thenQ_n | apply WP_skip))
    refine WP_drawS mixed (by kernel_rfl) (fun w' => Hp w [] w' _) hp.drew ?_
    have hp := hp.drew
    (repeat ((apply wdp; exact rfl); (intro w hp; intros; ((first | apply pv_move | (apply pf_load; exact rfl) | (apply pf_index; exact rfl)) <;> (first | exact rfl | assumption | exact hp.old0 (by assumption)))); (intros; (first | exact fI rfl | exact fP rfl | exact fS rfl))))
    (apply wdp; exact rfl; (intro w hp; exact pn_shr (b := 16) rfl rfl (by decide)); exact int_eq (b := ((D / 65536 : Nat) : Int)) rfl)
    (apply wdp; exact rfl; (intro w hp; exact pn_8of rfl rfl rfl); exact fI rfl)
    (repeat ((apply wdp; exact rfl); (intro w hp; intros; ((first | apply pv_move | (apply pf_load; exact rfl) | (apply pf_index; exact rfl)) <;> (first | exact rfl | assumption | exact hp.old0 (by assumption)))); (intros; (first | exact fI rfl | exact fP rfl | exact fS rfl))))
    (apply wdp; exact rfl; (intro w hp; exact pn_shr (b := 8) rfl rfl (by decide)); exact int_eq (b := ((D / 256 : Nat) : Int)) rfl)
    (apply wdp; exact rfl; (intro w hp; exact pn_8of rfl rfl rfl); exact fI rfl)
    (apply wdp; exact rfl; (intro w hp; exact pv_move); exact fS rfl)
    (apply wdp; exact rfl; (intro w hp; exact pv_move); exact fI rfl)
    (apply wdp; exact rfl; (intro w hp; exact pf_index rfl rfl rfl hs0 hlt); exact fP rfl)
    (apply wdp; exact rfl; (intro w hp; exact pf_load rfl rfl (hp.old0 hci)); exact fI rfl)
    (apply wdp; exact rfl; (intro w hp; exact pn_8of rfl rfl rfl); exact fI rfl)
    (apply wds; exact rfl; exact sf_slice hp rfl rfl rfl rfl rfl rfl rfl; rintro _ w2 ⟨nb, rfl, hp⟩; refine ⟨hp.tail, ?_⟩)
    have hsn : SlAt w2 1 eB (some ⟨nb, 0, none⟩) [D / 65536 % 256, D / 256 % 256, D % 256] := blk_SlAt [D / 65536 % 256, D / 256 % 256, D % 256] hp 0 rfl (fun _ => rfl)
    (apply wdsS; exact rfl; exact rfl; exact sf_app eB Z [D / 65536 % 256, D / 256 % 256, D % 256] hp 1 rfl rfl rfl rfl rfl rfl (fun _ => rfl) rfl rfl rfl hv hsn (fun _ => rfl) (by show Z.length + 3 < 1000000; omega); rintro _ w3 ⟨s', c', rfl, hv', hp⟩)
    (repeat ((apply wdp; exact rfl); (intro w hp; intros; apply pv_assign); (intros; exact fS rfl)))
    refine wpd_nil ?_
    have hp := hp.tail
    have hp : Hp w [] w3 [ownL eB 5 1 s' c' (Z ++ [D / 65536 % 256, D / 256 % 256, D % 256])] := hp
    rw [← hst] at hv' hp ⊢
    (repeat (first | (with_reducible first | apply WP_region | apply thenQ_n | apply inBlk_n) | (apply wlp; apply pv_move; exact fI rfl)))
    (apply wlp; exact pv_sub rfl rfl; exact int_eq (i64_in (by omega) (by omega)))
    (repeat (first | (with_reducible first | apply wpl_nil | apply thenQ_n) | (apply wlp; apply pv_assign; exact fI rfl)))
    exact ⟨j, s', c', put_self (put_self (Same.eq (by repeat (first | exact Same.hav | exact Same.refl | refine Same.put rfl ?_ | refine Same.havs rfl ?_))) rfl) rfl, ⟨by omega, hv', hp⟩, by omega⟩
  · obtain rfl : k = 0 := by omega
    rw [Nat.mul_zero, List.drop_zero] at hv hp ⊢
    by_cases hl0 : l.length = 0
    · have hn : (dg 256 V (3 * l.length)).reverse = [] := List.eq_nil_of_length_eq_zero (by rw [List.length_reverse]; omega)
      rw [hn] at h67 hv hp ⊢
      rcases hv with ⟨e1, _⟩ | ⟨g, cap, e1, _⟩
      · injection e1 with e2 _ e3
        subst e2 e3
        (repeat (first | (with_reducible first | apply WP_seq | apply WP_region | apply thenQ_n | apply thenQ_exit | apply WP_exit) | ((with_reducible apply inBlk_same); exact rfl) | (apply wlp; (first | apply pv_move | apply pf_conv); exact fS rfl)))
        (apply wlp; exact pf_bts0 rfl rfl rfl; exact fT rfl)
        (apply wls; exact st_call rfl ent57 rfl (h67 _ .nil (by simp)); rintro _ w2 ⟨rfl, hk⟩; have hp := hp.call hk)
        (repeat (first | (with_reducible first | apply wpl_nil | apply thenQ_n | apply WP_ret) | (apply wlp; apply pv_assign; exact fT rfl)))
        exact ret_tmp rfl rfl ⟨_, rfl, rfl, hp.keeps⟩
      · injection e1 with e2 _ e3
        subst e2
        (repeat (first | (with_reducible first | apply WP_seq | apply WP_region | apply thenQ_n | apply thenQ_exit | apply WP_exit) | ((with_reducible apply inBlk_same); exact rfl) | (apply wlp; (first | apply pv_move | apply pf_conv); exact fS rfl)))
        (apply wlp; exact pf_btsL hp rfl rfl rfl rfl rfl (.inr ⟨g, cap, by rw [e3], by assumption⟩); exact fT rfl)
        (apply wls; exact st_call rfl ent57 rfl (h67 _ .nil (by simp)); rintro _ w2 ⟨rfl, hk⟩; have hp := hp.call hk)
        (repeat (first | (with_reducible first | apply wpl_nil | apply thenQ_n | apply WP_ret) | (apply wlp; apply pv_assign; exact fT rfl)))
        exact ret_tmp rfl rfl ⟨_, rfl, rfl, hp.keeps⟩
    · have hne : (dg 256 V (3 * l.length)).reverse ≠ [] := by
        intro h
        have := congrArg List.length h
        rw [List.length_reverse, hdl] at this
        simp at this
        omega
      obtain ⟨bb, rfl⟩ := hv.addr hne
      (repeat (first | (with_reducible first | apply WP_seq | apply WP_region | apply thenQ_n | apply thenQ_exit | apply WP_exit) | ((with_reducible apply inBlk_same); exact rfl) | (apply wlp; (first | apply pv_move | apply pf_conv); exact fS rfl)))
      (apply wlp; exact pf_btsL hp rfl rfl rfl rfl rfl hv; exact fT rfl)
      (apply wls; exact st_call rfl ent57 rfl (h67 _ hbd (by rw [List.length_reverse, hdl]; omega)); rintro _ w2 ⟨rfl, hk⟩; have hp := hp.call hk)
      (repeat (first | (with_reducible first | apply wpl_nil | apply thenQ_n | apply WP_ret) | (apply wlp; apply pv_assign; exact fT rfl)))
      exact ret_tmp rfl rfl ⟨_, rfl, rfl, hp.keeps⟩
end Go.Proofs.YtfjbioghpgmkiaaGreatDoor
/- Printed by gen_gd.py. sortesref01: trim, minus, Sub, Add, Mul; conditions: the numbers are short. -/
namespace Go.Proofs.YtfjbioghpgmkiaaGreatDoor
open Go.Eng Go.Dig

theorem trim_d24 {l : List Nat} (h : Bd 16777216 l) : trimL l = d24 (val 16777216 l) := trimL_digs (by decide) h
theorem pn_quoI {n : Nat} {F : Fr} {w : World} {d : Option Tmp} {ty : TypeId} {pos : String} {aft : Array Edge} {g : Option (Nat × Bool)} {x y : Operand} {t t' a b : Nat} (hx : ev n F x = .int .i64 (a : Int)) (hy : ev n F y = .int .i64 (b : Int)) (hb : 0 < b) (ha : a ≤ 9223372036854775807) : PV Tryz.prog n w F ⟨d, .binOp .quo t x y t', ty, pos, aft, g⟩ (.int .i64 ((a / b : Nat) : Int)) := by
  have h := pv_quo (P := Tryz.prog) (w := w) (d := d) (ty := ty) (pos := pos) (aft := aft) (g := g) (t := t) (t' := t') hx hy (by omega)
  rwa [i64_quo b ha] at h
theorem pn_remI {n : Nat} {F : Fr} {w : World} {d : Option Tmp} {ty : TypeId} {pos : String} {aft : Array Edge} {g : Option (Nat × Bool)} {x y : Operand} {t t' a b : Nat} (hx : ev n F x = .int .i64 (a : Int)) (hy : ev n F y = .int .i64 (b : Int)) (hb : 0 < b) : PV Tryz.prog n w F ⟨d, .binOp .rem t x y t', ty, pos, aft, g⟩ (.int .i64 ((a % b : Nat) : Int)) := by
  have h := pv_rem (P := Tryz.prog) (w := w) (d := d) (ty := ty) (pos := pos) (aft := aft) (g := g) (t := t) (t' := t') hx hy (by omega)
  rwa [int_rem] at h
theorem val_snoc (b : Nat) (l : List Nat) (d : Nat) : val b (l ++ [d]) = val b l + b ^ l.length * d := by rw [val_append, val_single]

attribute [local irreducible] PV StepF wpl wpd WP Ret
attribute [local irreducible] Fit

theorem c89 (l : List Nat) (s : Option Addr) (c : Nat) (w : World) (hc : l.length ≤ c) (hm : l.length ≤ 1000000) (hs : SlAt w 1 eD s l) :
    Ret Tryz.prog 60 [.slice s l.length c] w (fun v w' => v = .slice s (trimL l).length c ∧ Keeps [] w w') := by
  refine Ret.of_WP Tryz.func60 rfl Tryz.ntmps60 rfl ?_
  have hp := Hp.start (M := []) (w := w)
  (repeat (first | (with_reducible first | apply WP_seq | apply WP_block | apply WP_region | apply wpl_nil | apply thenQ_n) | (apply wlp; apply pv_assign; exact fS rfl)))
  refine WP_loopS [0, 3, 4, 5, 6, 7, 8, 9, 10, 11, 12, 13, 14, 15, 16, 17, 18, 19] (fun (m : Nat) F => F.put 0 (.slice s m c)) (fun m w' => m ≤ l.length ∧ trimL l = trimL (l.take m) ∧ Hp w [] w' []) (fun m => m) l.length (put_self (Same.eq .refl) rfl) ⟨Nat.le_refl _, by rw [List.take_length], hp⟩ ?_
  clear hp
  rintro u m w1 ⟨hml, ht, hp⟩
  (repeat (with_reducible first | apply WP_seq | apply WP_region))
  (apply wlp; apply pv_move; exact fS rfl)
  (apply wlp; ((apply pf_len; exact rfl) <;> exact rfl); exact fI rfl)
  by_cases h0 : 0 < m
  · obtain ⟨k, rfl⟩ : ∃ k, m = k + 1 := ⟨m - 1, by omega⟩
    have hlt : k < l.length := by omega
    have hk1 : k < k + 1 := by omega
    have htk := List.take_succ_eq_append_getElem hlt
    obtain ⟨b0, o0, hs0, hc0⟩ := hs.base (by omega)
    have hci := hc0 k _ (List.getElem?_eq_getElem hlt) 0 _ rfl
    generalize l[k] = y at hci htk
    have hci : w.cell? ⟨b0, o0 + k * 1, none⟩ = some (.int .i64 (y : Int)) := hci
    (apply wlp; (exact pv_gtr rfl rfl); exact bool_eq (b := true) (decide_eq_true (by omega)))
    (repeat (first | (apply wlp; (intros; ((first | apply pv_move | (apply pf_len; exact rfl)) <;> exact rfl)); (intros; (first | exact fI rfl | exact fB rfl | exact fS rfl))) | ((apply wlpT; exact rfl; exact rfl); (((first | apply pv_move | (apply pf_len; exact rfl)) <;> exact rfl)); (intros; (first | exact fI rfl | exact fB rfl | exact fS rfl))) | (apply wlpF; exact rfl; exact rfl; exact rfl) | (apply wlpU; exact rfl; exact rfl)))
    (apply wlpT; exact rfl; exact rfl; (exact pv_sub rfl rfl); exact int_eq (b := ((k : Nat) : Int)) (by rw [i64_in (by omega) (by omega)]; omega))
    (repeat (first | (with_reducible first | apply wpl_nil | apply thenQ_n) | (apply wlp; (intros; ((first | (apply pf_load; exact rfl) | exact pv_andT rfl rfl | (apply pv_eql; (first | exact rfl | exact ev_sel rfl (by assumption))) | (apply pf_index; exact rfl)) <;> (first | exact rfl | assumption | exact hp.old0 (by assumption)))); (intros; (first | exact fI rfl | exact fB rfl | exact fP rfl))) | ((apply wlpT; exact rfl; exact rfl); (((first | (apply pf_load; exact rfl) | exact pv_andT rfl rfl | (apply pv_eql; (first | exact rfl | exact ev_sel rfl (by assumption))) | (apply pf_index; exact rfl)) <;> (first | exact rfl | assumption | exact hp.old0 (by assumption)))); (intros; (first | exact fI rfl | exact fB rfl | exact fP rfl))) | (apply wlpF; exact rfl; exact rfl; exact rfl) | (apply wlpU; exact rfl; exact rfl)))
    refine WP_cond_d rfl (fun h => ?_) (fun h => ?_)
    · have hy : y = 0 := by omega
      subst hy
      (repeat (first | (with_reducible first | apply WP_block | apply WP_region | apply thenQ_n | apply WP_skip) | (apply wlp; ((first | apply pv_move | (apply pf_len; exact rfl)) <;> exact rfl); (first | exact fI rfl | exact fS rfl))))
      (apply wlp; (exact pv_sub rfl rfl); exact int_eq (b := ((k : Nat) : Int)) (by rw [i64_in (by omega) (by omega)]; omega))
      (apply wlp; exact pv_sliceTo rfl rfl rfl (by omega); exact fS rfl)
      (repeat (first | (with_reducible first | apply wpl_nil | apply thenQ_n | apply inBlk_n) | (apply wlp; apply pv_assign; exact fS rfl)))
      refine ⟨k, put_self (Same.eq (by repeat (first | exact Same.hav | exact Same.refl | refine Same.put rfl ?_ | refine Same.havs rfl ?_))) rfl, ⟨by omega, ?_, hp⟩, by omega⟩
      rw [ht, htk, trimL_snoc0]
    · have hy : y ≠ 0 := by omega
      (repeat (first | (with_reducible first | apply WP_seq | apply WP_region | apply wpl_nil | apply thenQ_n | apply thenQ_exit | apply WP_ret | apply WP_exit) | ((with_reducible apply inBlk_same); exact rfl) | (apply wlp; (first | apply pv_move | apply pv_assign); exact fS rfl)))
      refine ret_tmp rfl rfl ⟨_, rfl, sl_eq ?_, hp.keeps⟩
      rw [ht, htk, trimL_snoc hy]
      simp
      omega
  · obtain rfl : m = 0 := by omega
    (apply wlp; (exact pv_gtr rfl rfl); exact bool_eq (b := false) (decide_eq_false (by omega)))
    (repeat (first | (with_reducible first | apply wpl_nil | apply thenQ_n) | (apply wlp; (intros; (first | apply pv_move | exact pv_andF rfl)); (intros; exact fB rfl)) | (apply wlpF; exact rfl; exact rfl; exact rfl) | (apply wlpU; exact rfl; exact rfl)))
    refine WP_cond_f rfl ?_
    (repeat (first | (with_reducible first | apply WP_seq | apply WP_region | apply wpl_nil | apply thenQ_n | apply thenQ_exit | apply WP_ret | apply WP_exit) | ((with_reducible apply inBlk_same); exact rfl) | (apply wlp; (first | apply pv_move | apply pv_assign); exact fS rfl)))
    refine ret_tmp rfl rfl ⟨_, rfl, sl_eq ?_, hp.keeps⟩
    rw [ht]
    rfl
theorem WP_loop5 {P : Program} {n : Nat} {Q : Exit → Fr → World → Prop} {F : Fr} {w : World} {c : Code} {X Y Z T U : Type} (S : List Nat) (H : X → Y → Z → T → U → Fr → Fr) (I : X → Y → Z → T → U → World → Prop) (μ : X → Y → Z → T → U → Nat) (x0 : X) (y0 : Y) (z0 : Z) (t0 : T) (u0 : U) (h0 : F = H x0 y0 z0 t0 u0 (Fr.hav S F F)) (hi : I x0 y0 z0 t0 u0 w)
    (round : ∀ (v : Fr) (x : X) (y : Y) (z : Z) (t : T) (u : U) (w : World), I x y z t u w → WP P n c (thenQ (fun F' w' => ∃ x' y' z' t' u', F' = H x' y' z' t' u' (Fr.hav S F' F) ∧ I x' y' z' t' u' w' ∧ μ x' y' z' t' u' < μ x y z t u) Q) (H x y z t u (Fr.hav S v F)) w) : WP P n (.loop c) Q F w := by
  refine WP_loopS S (fun (x : X × Y × Z × T × U) => H x.1 x.2.1 x.2.2.1 x.2.2.2.1 x.2.2.2.2) (fun x => I x.1 x.2.1 x.2.2.1 x.2.2.2.1 x.2.2.2.2) (fun x => μ x.1 x.2.1 x.2.2.1 x.2.2.2.1 x.2.2.2.2) (x0, y0, z0, t0, u0) h0 hi ?_
  intro u x w hI
  refine WP_mono (round u x.1 x.2.1 x.2.2.1 x.2.2.2.1 x.2.2.2.2 w hI) ?_
  intro e F w h
  cases e with
  | normal =>
    obtain ⟨x', y', z', t', u', h1, h2, h3⟩ := h
    exact ⟨(x', y', z', t', u'), h1, h2, h3⟩
  | _ => exact h
theorem c73o (x y : Nat) (s s2 : Option Addr) (c c2 : Nat) (w : World) (hx : SlAt w 1 eD s (d24 x)) (hy : SlAt w 1 eD s2 (d24 y)) (hlx : (d24 x).length ≤ 100000) (hly : (d24 y).length ≤ 100000) (hyx : y ≤ x) :
    Ret Tryz.prog 63 [.slice s (d24 x).length c, .slice s2 (d24 y).length c2] w (fun v w' => ∃ s' c' z, v = .slice s' (d24 (x - y)).length c' ∧ d24 (x - y) <+: z ∧ SVL s' c' z ∧ Hp w [] w' [ownL eD 3 1 s' c' z]) := by
  refine Ret.of_WP Tryz.func63 rfl Tryz.ntmps63 rfl ?_
  have hp := (Hp.start (M := []) (w := w)).nilL eD 3 1
  (repeat (first | (with_reducible first | apply WP_seq | apply WP_block | apply WP_region | apply wpl_nil | apply thenQ_n) | (apply wlp; apply pv_assign; (first | exact fI rfl | exact fS rfl))))
  refine WP_loop5 [5, 6, 7, 8, 9, 10, 11, 12, 13, 14, 15, 16, 17, 18, 19, 20, 21, 22, 23, 24, 25, 26, 27, 28, 29, 30, 31, 32, 33, 34, 35, 36, 37, 38] (fun (i bo : Nat) (z : List Nat) (st : Option Addr) (ct : Nat) F => ((F.put 7 (.int .i64 (i : Int))).put 6 (.int .i64 (bo : Int))).put 5 (.slice st z.length ct))
    (fun i bo z st ct w' => i ≤ (d24 x).length ∧ z.length = i ∧ Bd 16777216 z ∧ bo < 2 ∧ val 16777216 z + y % 16777216 ^ i = x % 16777216 ^ i + bo * 16777216 ^ i ∧ SVL st ct z ∧ Hp w [] w' [ownL eD 3 1 st ct z])
    (fun i _ _ _ _ => (d24 x).length - i) 0 0 [] none 0 (put_self (put_self (put_self (Same.eq .refl) rfl) rfl) rfl) ⟨Nat.zero_le _, rfl, .nil, by decide, by simp [val, Nat.mod_one], SVL.nil, hp⟩ ?_
  clear hp
  rintro u i bo z st ct w2 ⟨hi, hzl, hzb, hbo, hval, hv, hp⟩
  (repeat (first | (with_reducible first | apply WP_seq | apply WP_region | apply wpl_nil | apply thenQ_n) | (apply wlp; ((first | apply pv_move | (apply pf_len; exact rfl) | apply pv_lss) <;> exact rfl); (first | exact fI rfl | exact fB rfl | exact fS rfl))))
  refine WP_cond_d rfl (fun h2 => ?_) (fun h2 => ?_)
  · have hlt : i < (d24 x).length := by omega
    obtain ⟨b0, o0, hs0, hc0⟩ := hx.base (by omega)
    have hci := hc0 i _ (List.getElem?_eq_getElem hlt) 0 _ rfl
    have hbd := (d24_bd x).get hlt
    have hg := d24_get hlt
    generalize (d24 x)[i] = dx at hci hbd hg
    have hci : w.cell? ⟨b0, o0 + i * 1, none⟩ = some (.int .i64 (dx : Int)) := hci
    obtain ⟨dy, hgy, hbdy⟩ : ∃ dy, dy = y / 16777216 ^ i % 16777216 ∧ dy < 16777216 := ⟨_, rfl, Nat.mod_lt _ (by decide)⟩
    (repeat (first | (with_reducible first | apply WP_seq | apply WP_block | apply WP_region | apply thenQ_n | apply WP_skip) | (apply wlp; ((first | apply pv_move | (apply pf_load; exact rfl) | (apply pf_index; exact rfl)) <;> (first | exact rfl | assumption | exact hp.old0 (by assumption))); (first | exact fI rfl | exact fP rfl | exact fS rfl))))
    (apply wlp; exact pv_sub rfl rfl; exact int_eq (i64_in (by omega) (by omega)))
    (repeat (first | (with_reducible first | apply WP_seq | apply WP_region | apply wpl_nil | apply thenQ_n) | (apply wlp; ((first | apply pv_move | apply pv_assign | (apply pf_len; exact rfl) | apply pv_lss) <;> exact rfl); (first | exact fI rfl | exact fB rfl | exact fS rfl))))
    refine WP_cond_d rfl (fun h3 => ?_) (fun h3 => ?_)
    · have hlty : i < (d24 y).length := by omega
      obtain ⟨b1, o1, hs1, hc1⟩ := hy.base (by omega)
      have hcj := hc1 i _ (List.getElem?_eq_getElem hlty) 0 _ rfl
      have hg2 := d24_get hlty
      rw [← hgy] at hg2
      rw [hg2] at hcj
      have hcj : w.cell? ⟨b1, o1 + i * 1, none⟩ = some (.int .i64 (dy : Int)) := hcj
      (repeat (first | with_reducible apply WP_region | (apply wlp; ((first | apply pv_move | (apply pf_load; exact rfl) | (apply pf_index; exact rfl)) <;> (first | exact rfl | assumption | exact hp.old0 (by assumption))); (first | exact fI rfl | exact fP rfl | exact fS rfl))))
      (apply wlp; exact pv_sub rfl rfl; exact int_eq (i64_in (by omega) (by omega)))
      (repeat (first | (with_reducible first | apply WP_seq | apply WP_region | apply wpl_nil | apply thenQ_n) | (apply wlp; ((first | apply pv_move | apply pv_assign | apply pv_lss) <;> exact rfl); (first | exact fI rfl | exact fB rfl))))
      refine WP_cond_d rfl (fun h4 => ?_) (fun h4 => ?_)
      · obtain ⟨q, hq⟩ : ∃ q : Nat, (q : Int) = (dx : Int) - bo - dy + 16777216 := ⟨((dx : Int) - bo - dy + 16777216).toNat, by omega⟩
        (repeat (first | (with_reducible first | apply WP_seq | apply WP_region) | (apply wlp; apply pv_move; exact fI rfl)))
        (apply wlp; exact pv_add rfl rfl; exact int_eq (b := (q : Int)) (by rw [i64_in (by omega) (by omega)]; omega))
        (repeat (first | (with_reducible first | apply WP_region | apply wpl_nil | apply thenQ_n) | (apply wlp; (first | apply pv_move | apply pv_assign); (first | exact fI rfl | exact fS rfl))))
        (apply wls; exact sf_slice hp rfl rfl rfl rfl rfl rfl rfl; rintro _ w3 ⟨nb, rfl, hp⟩)
        (apply wls; exact sf_app1 eD z q hp 1 0 rfl rfl rfl rfl rfl rfl (fun _ => rfl) rfl rfl rfl hv rfl rfl (by omega); rintro _ w4 ⟨s', c', rfl, hv', hp⟩)
        have hp := hp.tail
        (repeat (first | (with_reducible first | apply WP_region | apply wpl_nil | apply thenQ_n | apply inBlk_n) | (apply wlp; (first | apply pv_move | apply pv_assign); (first | exact fI rfl | exact fS rfl))))
        (apply wlp; exact pv_add rfl rfl; exact int_eq (i64_in (by omega) (by omega)))
        (repeat (first | (with_reducible first | apply wpl_nil | apply thenQ_n) | (apply wlp; apply pv_assign; exact fI rfl)))
        refine ⟨i + 1, 1, z ++ [q], s', c', put_self (put_self (put_self (Same.eq (by repeat (first | exact Same.hav | exact Same.refl | refine Same.put rfl ?_ | refine Same.havs rfl ?_))) rfl) rfl) rfl, ⟨by omega, by simp [hzl], hzb.app (.cons (by omega) .nil), by omega, ?_, hv', hp⟩, by omega⟩
        rw [val_snoc, hzl]
        refine sub_step hval ?_
        rw [← hg, ← hgy]
        omega
      · obtain ⟨q, hq⟩ : ∃ q : Nat, (q : Int) = (dx : Int) - bo - dy := ⟨((dx : Int) - bo - dy).toNat, by omega⟩
        rw [← hq]
        (repeat (first | (with_reducible first | apply WP_region | apply thenQ_n | apply WP_skip) | (apply wlp; apply pv_move; (first | exact fI rfl | exact fS rfl))))
        (apply wls; exact sf_slice hp rfl rfl rfl rfl rfl rfl rfl; rintro _ w3 ⟨nb, rfl, hp⟩)
        (apply wls; exact sf_app1 eD z q hp 1 0 rfl rfl rfl rfl rfl rfl (fun _ => rfl) rfl rfl rfl hv rfl rfl (by omega); rintro _ w4 ⟨s', c', rfl, hv', hp⟩)
        have hp := hp.tail
        (repeat (first | (with_reducible first | apply WP_region | apply wpl_nil | apply thenQ_n | apply inBlk_n) | (apply wlp; (first | apply pv_move | apply pv_assign); (first | exact fI rfl | exact fS rfl))))
        (apply wlp; exact pv_add rfl rfl; exact int_eq (i64_in (by omega) (by omega)))
        (repeat (first | (with_reducible first | apply wpl_nil | apply thenQ_n) | (apply wlp; apply pv_assign; exact fI rfl)))
        refine ⟨i + 1, 0, z ++ [q], s', c', put_self (put_self (put_self (Same.eq (by repeat (first | exact Same.hav | exact Same.refl | refine Same.put rfl ?_ | refine Same.havs rfl ?_))) rfl) rfl) rfl, ⟨by omega, by simp [hzl], hzb.app (.cons (by omega) .nil), by omega, ?_, hv', hp⟩, by omega⟩
        rw [val_snoc, hzl]
        refine sub_step hval ?_
        rw [← hg, ← hgy]
        omega
    · have hdy : dy = 0 := by rw [hgy]; exact d24_beyond (by omega)
      (repeat (first | (with_reducible first | apply WP_seq | apply WP_region | apply wpl_nil | apply thenQ_n | apply WP_skip) | (apply wlp; ((first | apply pv_move | apply pv_assign | apply pv_lss) <;> exact rfl); (first | exact fI rfl | exact fB rfl))))
      refine WP_cond_d rfl (fun h4 => ?_) (fun h4 => ?_)
      · obtain ⟨q, hq⟩ : ∃ q : Nat, (q : Int) = (dx : Int) - bo + 16777216 := ⟨((dx : Int) - bo + 16777216).toNat, by omega⟩
        (repeat (first | (with_reducible first | apply WP_seq | apply WP_region) | (apply wlp; apply pv_move; exact fI rfl)))
        (apply wlp; exact pv_add rfl rfl; exact int_eq (b := (q : Int)) (by rw [i64_in (by omega) (by omega)]; omega))
        (repeat (first | (with_reducible first | apply WP_region | apply wpl_nil | apply thenQ_n) | (apply wlp; (first | apply pv_move | apply pv_assign); (first | exact fI rfl | exact fS rfl))))
        (apply wls; exact sf_slice hp rfl rfl rfl rfl rfl rfl rfl; rintro _ w3 ⟨nb, rfl, hp⟩)
        (apply wls; exact sf_app1 eD z q hp 1 0 rfl rfl rfl rfl rfl rfl (fun _ => rfl) rfl rfl rfl hv rfl rfl (by omega); rintro _ w4 ⟨s', c', rfl, hv', hp⟩)
        have hp := hp.tail
        (repeat (first | (with_reducible first | apply WP_region | apply wpl_nil | apply thenQ_n | apply inBlk_n) | (apply wlp; (first | apply pv_move | apply pv_assign); (first | exact fI rfl | exact fS rfl))))
        (apply wlp; exact pv_add rfl rfl; exact int_eq (i64_in (by omega) (by omega)))
        (repeat (first | (with_reducible first | apply wpl_nil | apply thenQ_n) | (apply wlp; apply pv_assign; exact fI rfl)))
        refine ⟨i + 1, 1, z ++ [q], s', c', put_self (put_self (put_self (Same.eq (by repeat (first | exact Same.hav | exact Same.refl | refine Same.put rfl ?_ | refine Same.havs rfl ?_))) rfl) rfl) rfl, ⟨by omega, by simp [hzl], hzb.app (.cons (by omega) .nil), by omega, ?_, hv', hp⟩, by omega⟩
        rw [val_snoc, hzl]
        refine sub_step hval ?_
        rw [← hg, ← hgy]
        omega
      · obtain ⟨q, hq⟩ : ∃ q : Nat, (q : Int) = (dx : Int) - bo := ⟨((dx : Int) - bo).toNat, by omega⟩
        rw [← hq]
        (repeat (first | (with_reducible first | apply WP_region | apply thenQ_n | apply WP_skip) | (apply wlp; apply pv_move; (first | exact fI rfl | exact fS rfl))))
        (apply wls; exact sf_slice hp rfl rfl rfl rfl rfl rfl rfl; rintro _ w3 ⟨nb, rfl, hp⟩)
        (apply wls; exact sf_app1 eD z q hp 1 0 rfl rfl rfl rfl rfl rfl (fun _ => rfl) rfl rfl rfl hv rfl rfl (by omega); rintro _ w4 ⟨s', c', rfl, hv', hp⟩)
        have hp := hp.tail
        (repeat (first | (with_reducible first | apply WP_region | apply wpl_nil | apply thenQ_n | apply inBlk_n) | (apply wlp; (first | apply pv_move | apply pv_assign); (first | exact fI rfl | exact fS rfl))))
        (apply wlp; exact pv_add rfl rfl; exact int_eq (i64_in (by omega) (by omega)))
        (repeat (first | (with_reducible first | apply wpl_nil | apply thenQ_n) | (apply wlp; apply pv_assign; exact fI rfl)))
        refine ⟨i + 1, 0, z ++ [q], s', c', put_self (put_self (put_self (Same.eq (by repeat (first | exact Same.hav | exact Same.refl | refine Same.put rfl ?_ | refine Same.havs rfl ?_))) rfl) rfl) rfl, ⟨by omega, by simp [hzl], hzb.app (.cons (by omega) .nil), by omega, ?_, hv', hp⟩, by omega⟩
        rw [val_snoc, hzl]
        refine sub_step hval ?_
        rw [← hg, ← hgy]
        omega
  · obtain rfl : i = (d24 x).length := by omega
    have hV : val 16777216 z = x - y := by
      have hzlt := val_lt hzb
      rw [hzl] at hzlt
      exact sub_end hval (d24_lt (Nat.le_refl _)) hyx hzlt
    have hst : SlAt w2 1 eD st z := ownL_At hp 0 rfl hv (fun _ => rfl)
    have htz : trimL z = d24 (x - y) := by rw [trim_d24 hzb, hV]
    have h89 := c89 z st ct w2 hv.cap (by omega) hst
    rw [htz] at h89
    (repeat (first | (with_reducible first | apply WP_seq | apply WP_region | apply thenQ_n | apply thenQ_exit | apply WP_exit) | ((with_reducible apply inBlk_same); exact rfl) | (apply wlp; apply pv_move; exact fS rfl)))
    (apply wls; exact st_call rfl ent60 rfl h89; rintro _ w3 ⟨rfl, hk⟩; have hp := hp.call hk)
    (repeat (first | (with_reducible first | apply wpl_nil | apply thenQ_n | apply WP_ret) | (apply wlp; apply pv_assign; exact fS rfl)))
    exact ret_tmp rfl rfl ⟨_, rfl, st, ct, z, rfl, htz ▸ trimL_pre z, hv, hp⟩
theorem c73 (x y : Nat) (s s2 : Option Addr) (c c2 : Nat) (w : World) (hx : SlAt w 1 eD s (d24 x)) (hy : SlAt w 1 eD s2 (d24 y)) (hlx : (d24 x).length ≤ 100000) (hly : (d24 y).length ≤ 100000) (hyx : y ≤ x) :
    Ret Tryz.prog 63 [.slice s (d24 x).length c, .slice s2 (d24 y).length c2] w (fun v w' => ∃ s' c', v = .slice s' (d24 (x - y)).length c' ∧ (d24 (x - y)).length ≤ c' ∧ SlAt w' 1 eD s' (d24 (x - y)) ∧ Keeps [] w w') := by
  refine (c73o x y s s2 c c2 w hx hy hlx hly hyx).mono ?_
  rintro v w' ⟨s', c', z, rfl, hpre, hv, hp⟩
  exact ⟨s', c', rfl, Nat.le_trans hpre.length_le hv.cap, (ownL_At hp 0 rfl hv (fun _ => rfl)).pre hpre, hp.keeps⟩
theorem c51 (x y : Nat) (w : World) (hx : Fit x) (hy : Fit y) : Ret Tryz.prog 46 [.string (ofN x), .string (ofN y)] w (fun v w' => v = .tuple #[.string (ofN (x - y)), .bool (decide (y ≤ x))] ∧ Keeps [] w w') := by
  refine Ret.of_WP Tryz.func46 rfl Tryz.ntmps46 rfl ?_
  have hp := Hp.start (M := []) (w := w)
  (repeat (first | (with_reducible first | apply WP_seq | apply WP_region | apply wpl_nil | apply thenQ_n) | (apply wlp; (first | apply pv_move | apply pv_assign); (first | exact fB rfl | exact fT rfl))))
  (apply wls; exact st_call rfl ent25 rfl (c50 x y _ hx hy); rintro _ w1 ⟨rfl, hk⟩; have hp := hp.call hk)
  by_cases hlt : x < y
  · rw [if_pos hlt]
    (repeat (first | (with_reducible first | apply wpl_nil | apply thenQ_n) | (apply wlp; (apply pv_lss <;> exact rfl); exact fB rfl)))
    refine WP_cond_t rfl ?_
    have e0 : x - y = 0 := by omega
    have e1 : decide (y ≤ x) = false := decide_eq_false (by omega)
    (repeat (first | (with_reducible first | apply WP_seq | apply WP_region | apply wpl_nil | apply thenQ_n | apply thenQ_ret | apply WP_ret) | (apply wlp; apply pv_assign; (first | exact fB rfl | exact fT rfl))))
    exact ret_tmp2 rfl rfl rfl ⟨_, rfl, by rw [e0, e1]; rfl, hp.keeps⟩
  · (apply wlp; exact pv_lss rfl rfl; exact bool_eq (b := false) (decide_eq_false (by rw [if_neg hlt]; split <;> omega)))
    (repeat (with_reducible first | apply wpl_nil | apply thenQ_n))
    refine WP_cond_f rfl ?_
    (repeat (first | (with_reducible first | apply WP_seq | apply WP_region | apply thenQ_n | apply WP_skip) | (apply wlp; apply pv_move; exact fT rfl)))
    (apply wls; exact st_call rfl ent59 rfl (c69 x _ hx); rintro _ w2 ⟨s, c, rfl, hv, hpo⟩)
    have hsx : SlAt w2 1 eD s (d24 x) := ownL_At hpo 0 rfl hv (fun _ => rfl)
    have hp := hp.call hpo.keeps
    clear hpo
    (repeat (apply wlp; apply pv_move; exact fT rfl))
    (apply wls; exact st_call rfl ent59 rfl (c69 y _ hy); rintro _ w3 ⟨s2, c2, rfl, hv2, hpo⟩)
    have hsy : SlAt w3 1 eD s2 (d24 y) := ownL_At hpo 0 rfl hv2 (fun _ => rfl)
    have hsx := hsx.keep0 hpo.keeps
    have hp := hp.call hpo.keeps
    clear hpo
    (apply wls; exact st_call rfl ent63 rfl (c73 x y s s2 c c2 _ hsx hsy hx.d24 hy.d24 (by omega)); rintro _ w4 ⟨s3, c3, rfl, _, hs3, hk⟩; have hp := hp.call hk)
    have h70 := c70 (d24 (x - y)) s3 c3 w4 hs3 (d24_bd _) (hx.le (Nat.sub_le x y)).d24
    rw [d24_val] at h70
    (apply wls; exact st_call rfl ent65 rfl h70; rintro _ w5 ⟨rfl, hk⟩; have hp := hp.call hk)
    have e1 : decide (y ≤ x) = true := decide_eq_true (by omega)
    (repeat (first | (with_reducible first | apply wpl_nil | apply thenQ_n | apply WP_ret) | (apply wlp; apply pv_assign; (first | exact fB rfl | exact fT rfl))))
    exact ret_tmp2 rfl rfl rfl ⟨_, rfl, by rw [e1]; rfl, hp.keeps⟩
end Go.Proofs.YtfjbioghpgmkiaaGreatDoor
/- Printed by gen_ge.py. sortesref01: Add, Mul; conditions: the numbers are short. -/
namespace Go.Proofs.YtfjbioghpgmkiaaGreatDoor
open Go.Eng Go.Dig

theorem Fit.d24s {x : Nat} (h : Fit x) : (Go.Proofs.YtfjbioghpgmkiaaGreatDoor.d24 x).length ≤ 4000 := by
  obtain ⟨k, h1, h2⟩ := h
  exact Nat.le_trans (d24_len (Nat.lt_of_lt_of_le h2 (Nat.pow_le_pow_left (by decide) k))) h1
theorem small7 {x b : Nat} (h : (digs 256 x).length ≤ b) (hb : b ≤ 7) : x < 72057594037927936 := by
  have h1 : x < 256 ^ 7 := lt_of_len (by decide) (Nat.le_trans h hb)
  rwa [show (256 : Nat) ^ 7 = 72057594037927936 from by decide] at h1
theorem small4 {x : Nat} (h : (digs 256 x).length ≤ 4) : x < 4294967296 := by
  have h1 : x < 256 ^ 4 := lt_of_len (by decide) h
  rwa [show (256 : Nat) ^ 4 = 4294967296 from by decide] at h1
theorem small3 {x : Nat} (h : (digs 256 x).length ≤ 3) : x < 16777216 := by
  have h1 : x < 256 ^ 3 := lt_of_len (by decide) h
  rwa [show (256 : Nat) ^ 3 = 16777216 from by decide] at h1
/-- no carry behind all digits -/
theorem carry_end {b x y M cy V : Nat} (hb : 2 ≤ b) (hx : x < b ^ M) (hy : y < b ^ M) (h : V + cy * b ^ (M + 1) = x % b ^ (M + 1) + y % b ^ (M + 1)) : cy = 0 := by
  have h1 := Nat.mod_le x (b ^ (M + 1))
  have h2 := Nat.mod_le y (b ^ (M + 1))
  rcases Nat.eq_zero_or_pos cy with h0 | h0
  · exact h0
  · have h3 : 1 * b ^ (M + 1) ≤ cy * b ^ (M + 1) := Nat.mul_le_mul_right _ h0
    have h4 : b ^ M * 2 ≤ b ^ (M + 1) := by rw [Nat.pow_succ]; exact Nat.mul_le_mul_left _ hb
    omega

attribute [local irreducible] PV StepF wpl wpd WP Ret
attribute [local irreducible] Fit

theorem c41 (x y : Nat) (w : World) (hx : Fit x) (hy : Fit y) : Ret Tryz.prog 32 [.string (ofN x), .string (ofN y)] w (fun v w' => v = .string (ofN (x + y)) ∧ Keeps [] w w') := by
  have hlx := hx.d24s
  have hly := hy.d24s
  refine Ret.of_WP Tryz.func32 rfl Tryz.ntmps32 rfl ?_
  have hp := Hp.start (M := []) (w := w)
  (repeat (first | (with_reducible first | apply WP_seq | apply WP_region | apply wpl_nil | apply thenQ_n) | (apply wlp; (first | apply pv_move | apply pv_assign); exact fT rfl)))
  (apply wls; exact st_call rfl ent58 rfl (c68 x 7 _ (by decide) hx); rintro _ w1 ⟨⟨q1, hq1, rfl⟩, hk⟩; have hp := hp.call hk)
  (repeat (first | (with_reducible first | apply WP_seq | apply WP_region | apply wpl_nil | apply thenQ_n) | (apply wlp; ((first | apply pv_move | apply pv_assign | apply pv_extract) <;> exact rfl); (first | exact fI rfl | exact fB rfl | exact fT rfl | exact fU rfl))))
  (apply wls; exact st_call rfl ent58 rfl (c68 y 7 _ (by decide) hy); rintro _ w2 ⟨⟨q2, hq2, rfl⟩, hk⟩; have hp := hp.call hk)
  (repeat (first | (with_reducible first | apply WP_seq | apply WP_region | apply wpl_nil | apply thenQ_n) | ((first | apply wlp | (apply wlg; exact rfl; exact rfl)); (intros; ((first | apply pv_move | apply pv_assign | exact pv_and rfl rfl rfl | apply pv_extract) <;> exact rfl)); (intros; (first | exact fI rfl | exact fB rfl | exact fU rfl)))))
  refine WP_cond rfl (fun h => ?_) (fun _ => ?_)
  · have hq : q1 = true ∧ q2 = true := by cases q1 <;> cases q2 <;> simp at h ⊢
    obtain ⟨rfl, rfl⟩ := hq
    have h1 := small7 (of_decide_eq_true hq1.symm) (by decide)
    have h2 := small7 (of_decide_eq_true hq2.symm) (by decide)
    (repeat (first | (with_reducible first | apply WP_seq | apply WP_region) | (apply wlp; apply pv_move; exact fI rfl)))
    (apply wlp; exact pv_add rfl rfl; exact int_eq (b := ((x + y : Nat) : Int)) (by rw [if_pos rfl, if_pos rfl, i64_in (by omega) (by omega)]; omega))
    (apply wls; exact st_call rfl ent37 rfl (c40 ((x + y : Nat) : Int) _ (by omega)); rintro _ w3 ⟨rfl, hk⟩; have hp := hp.call hk)
    rw [Int.toNat_natCast]
    (repeat (first | (with_reducible first | apply wpl_nil | apply thenQ_n | apply thenQ_ret | apply WP_ret) | (apply wlp; apply pv_assign; exact fT rfl)))
    exact ret_tmp rfl rfl ⟨_, rfl, rfl, hp.keeps⟩
  · (repeat (first | (with_reducible first | apply WP_seq | apply WP_region | apply thenQ_n | apply WP_skip) | (apply wlp; apply pv_move; exact fT rfl)))
    (apply wls; exact st_call rfl ent59 rfl (c69 x _ hx); rintro _ w3 ⟨s, c, rfl, hv1, hpo⟩)
    have hsx : SlAt w3 1 eD s (d24 x) := ownL_At hpo 0 rfl hv1 (fun _ => rfl)
    have hp := hp.call hpo.keeps
    clear hpo
    (repeat (first | (with_reducible first | apply WP_seq | apply WP_region | apply wpl_nil | apply thenQ_n) | (apply wlp; (first | apply pv_move | apply pv_assign); (first | exact fS rfl | exact fT rfl))))
    (apply wls; exact st_call rfl ent59 rfl (c69 y _ hy); rintro _ w4 ⟨s2, c2, rfl, hv2, hpo⟩)
    have hsy : SlAt w4 1 eD s2 (d24 y) := ownL_At hpo 0 rfl hv2 (fun _ => rfl)
    have hsx := hsx.keep0 hpo.keeps
    have hk0 := hp.keeps.trans hpo.keeps (by simp)
    clear hpo hp
    have hp := (Hp.start (M := []) (w := w4)).nilL eD 3 1
    obtain ⟨M, hM⟩ : ∃ M, M = max (d24 x).length (d24 y).length := ⟨_, rfl⟩
    (repeat (first | (with_reducible first | apply WP_seq | apply WP_block | apply WP_region | apply wpl_nil | apply thenQ_n) | (apply wlp; apply pv_assign; (first | exact fI rfl | exact fS rfl))))
    refine WP_loop5 [11, 12, 13, 14, 37, 38, 39, 40, 41, 42, 43, 44, 45, 46, 47, 48, 49, 50, 51, 52, 53, 54, 55, 56, 57, 58, 59, 60, 61, 62, 63, 64, 65, 66, 67, 68, 69, 70, 71, 72, 73, 74, 75, 76, 77, 78, 79, 80] (fun (k cy : Nat) (z : List Nat) (st : Option Addr) (ct : Nat) F => ((F.put 13 (.int .i64 (k : Int))).put 12 (.int .i64 (cy : Int))).put 11 (.slice st z.length ct))
      (fun k cy z st ct w' => k ≤ M + 1 ∧ z.length = k ∧ Bd 16777216 z ∧ cy < 2 ∧ val 16777216 z + cy * 16777216 ^ k = x % 16777216 ^ k + y % 16777216 ^ k ∧ SVL st ct z ∧ Hp w4 [] w' [ownL eD 3 1 st ct z])
      (fun k _ _ _ _ => M + 2 - k) 0 0 [] none 0 (put_self (put_self (put_self (Same.eq .refl) rfl) rfl) rfl) ⟨Nat.zero_le _, rfl, .nil, by decide, by simp [val, Nat.mod_one], SVL.nil, hp⟩ ?_
    clear hp
    rintro u k cy z st ct w5 ⟨hk, hzl, hzb, hcy, hval, hv, hp⟩
    have hxM : x < 16777216 ^ M := d24_lt (by omega)
    have hyM : y < 16777216 ^ M := d24_lt (by omega)
    (repeat (first | (with_reducible first | apply WP_seq | apply WP_region | apply wpl_nil | apply thenQ_n) | ((first | apply wlp | (apply wlg; exact rfl; exact rfl)); (intros; ((first | apply pv_move | (apply pf_len; exact rfl) | exact pv_or rfl rfl rfl | apply pv_lss | apply pv_gtr) <;> (first | exact rfl | exact ev_sel rfl (by assumption)))); (intros; (first | exact fI rfl | exact fB rfl | exact fS rfl)))))
    refine WP_cond rfl (fun h => ?_) (fun h => ?_)
    · have hkM : k ≤ M := by
        rcases Nat.lt_or_ge k (M + 1) with h1 | h1
        · omega
        · have e1 : k = M + 1 := by omega
          rw [e1] at hval
          have := carry_end (by decide) hxM hyM hval
          simp at h
          omega
      clear h
      obtain ⟨dx, hgx, hbx⟩ : ∃ dx, dx = x / 16777216 ^ k % 16777216 ∧ dx < 16777216 := ⟨_, rfl, Nat.mod_lt _ (by decide)⟩
      obtain ⟨dy, hgy, hby⟩ : ∃ dy, dy = y / 16777216 ^ k % 16777216 ∧ dy < 16777216 := ⟨_, rfl, Nat.mod_lt _ (by decide)⟩
      (repeat (first | (with_reducible first | apply WP_seq | apply WP_block | apply WP_region | apply wpl_nil | apply thenQ_n | apply WP_skip) | (apply wlp; ((first | apply pv_move | apply pv_assign | (apply pf_len; exact rfl) | apply pv_lss) <;> exact rfl); (first | exact fI rfl | exact fB rfl | exact fS rfl))))
      refine WP_cond_d rfl (fun h3 => ?_) (fun h3 => ?_)
      · have hltx : k < (d24 x).length := by omega
        obtain ⟨b0, o0, hs0, hc0⟩ := hsx.base (by omega)
        have hci := hc0 k _ (List.getElem?_eq_getElem hltx) 0 _ rfl
        rw [d24_get hltx, ← hgx] at hci
        have hci : w4.cell? ⟨b0, o0 + k * 1, none⟩ = some (.int .i64 (dx : Int)) := hci
        (repeat (first | with_reducible apply WP_region | (apply wlp; ((first | apply pv_move | (apply pf_load; exact rfl) | (apply pf_index; exact rfl)) <;> (first | exact rfl | assumption | exact hp.old0 (by assumption))); (first | exact fI rfl | exact fP rfl | exact fS rfl))))
        (apply wlp; (exact pv_add rfl rfl); exact int_eq (b := ((cy + dx : Nat) : Int)) (by rw [i64_in (by omega) (by omega)]; omega))
        (repeat (first | (with_reducible first | apply WP_seq | apply WP_region | apply wpl_nil | apply thenQ_n) | (apply wlp; ((first | apply pv_move | apply pv_assign | (apply pf_len; exact rfl) | apply pv_lss) <;> exact rfl); (first | exact fI rfl | exact fB rfl | exact fS rfl))))
        refine WP_cond_d rfl (fun h4 => ?_) (fun h4 => ?_)
        · have hlty : k < (d24 y).length := by omega
          obtain ⟨b1, o1, hs1, hc1⟩ := hsy.base (by omega)
          have hcj := hc1 k _ (List.getElem?_eq_getElem hlty) 0 _ rfl
          rw [d24_get hlty, ← hgy] at hcj
          have hcj : w4.cell? ⟨b1, o1 + k * 1, none⟩ = some (.int .i64 (dy : Int)) := hcj
          (repeat (first | with_reducible apply WP_region | (apply wlp; ((first | apply pv_move | (apply pf_load; exact rfl) | (apply pf_index; exact rfl)) <;> (first | exact rfl | assumption | exact hp.old0 (by assumption))); (first | exact fI rfl | exact fP rfl | exact fS rfl))))
          (apply wlp; (exact pv_add rfl rfl); exact int_eq (b := ((cy + dx + dy : Nat) : Int)) (by rw [i64_in (by omega) (by omega)]; omega))
          obtain ⟨S, hS⟩ : ∃ S, S = cy + dx + dy := ⟨_, rfl⟩
          rw [← hS]
          (repeat (first | (with_reducible first | apply WP_seq | apply WP_region | apply wpl_nil | apply thenQ_n) | (apply wlp; (first | apply pv_move | apply pv_assign); (first | exact fI rfl | exact fS rfl))))
          (apply wlp; exact pn_remI (b := 16777216) rfl rfl (by decide); exact fI rfl)
          (apply wls; exact sf_slice hp rfl rfl rfl rfl rfl rfl rfl; rintro _ w6 ⟨nb, rfl, hp⟩)
          (apply wls; exact sf_app1 eD z (S % 16777216) hp 1 0 rfl rfl rfl rfl rfl rfl (fun _ => rfl) rfl rfl rfl hv rfl rfl (by omega); rintro _ w7 ⟨s', c', rfl, hv', hp⟩)
          have hp := hp.tail
          (repeat (first | (with_reducible first | apply WP_region | apply wpl_nil | apply thenQ_n) | (apply wlp; (first | apply pv_move | apply pv_assign); (first | exact fI rfl | exact fS rfl))))
          (apply wlp; exact pn_quoI (b := 16777216) rfl rfl (by decide) (by omega); exact fI rfl)
          (repeat (first | (with_reducible first | apply WP_region | apply wpl_nil | apply thenQ_n | apply inBlk_n) | (apply wlp; (first | apply pv_move | apply pv_assign); exact fI rfl)))
          (apply wlp; exact pv_add rfl rfl; exact int_eq (i64_in (by omega) (by omega)))
          (repeat (first | (with_reducible first | apply wpl_nil | apply thenQ_n) | (apply wlp; apply pv_assign; exact fI rfl)))
          refine ⟨k + 1, S / 16777216, z ++ [S % 16777216], s', c', put_self (put_self (put_self (Same.eq (by repeat (first | exact Same.hav | exact Same.refl | refine Same.put rfl ?_ | refine Same.havs rfl ?_))) rfl) rfl) rfl, ⟨by omega, by simp [hzl], hzb.app (.cons (by omega) .nil), by omega, ?_, hv', hp⟩, by omega⟩
          rw [val_snoc, hzl]
          refine add_step hval ?_
          rw [← hgx, ← hgy]
          omega
        · have hdy : dy = 0 := by rw [hgy]; exact d24_beyond (by omega)
          obtain ⟨S, hS⟩ : ∃ S, S = cy + dx := ⟨_, rfl⟩
          rw [← hS]
          (repeat (first | (with_reducible first | apply WP_seq | apply WP_region | apply thenQ_n | apply WP_skip) | (apply wlp; apply pv_move; (first | exact fI rfl | exact fS rfl))))
          (apply wlp; exact pn_remI (b := 16777216) rfl rfl (by decide); exact fI rfl)
          (apply wls; exact sf_slice hp rfl rfl rfl rfl rfl rfl rfl; rintro _ w6 ⟨nb, rfl, hp⟩)
          (apply wls; exact sf_app1 eD z (S % 16777216) hp 1 0 rfl rfl rfl rfl rfl rfl (fun _ => rfl) rfl rfl rfl hv rfl rfl (by omega); rintro _ w7 ⟨s', c', rfl, hv', hp⟩)
          have hp := hp.tail
          (repeat (first | (with_reducible first | apply WP_region | apply wpl_nil | apply thenQ_n) | (apply wlp; (first | apply pv_move | apply pv_assign); (first | exact fI rfl | exact fS rfl))))
          (apply wlp; exact pn_quoI (b := 16777216) rfl rfl (by decide) (by omega); exact fI rfl)
          (repeat (first | (with_reducible first | apply WP_region | apply wpl_nil | apply thenQ_n | apply inBlk_n) | (apply wlp; (first | apply pv_move | apply pv_assign); exact fI rfl)))
          (apply wlp; exact pv_add rfl rfl; exact int_eq (i64_in (by omega) (by omega)))
          (repeat (first | (with_reducible first | apply wpl_nil | apply thenQ_n) | (apply wlp; apply pv_assign; exact fI rfl)))
          refine ⟨k + 1, S / 16777216, z ++ [S % 16777216], s', c', put_self (put_self (put_self (Same.eq (by repeat (first | exact Same.hav | exact Same.refl | refine Same.put rfl ?_ | refine Same.havs rfl ?_))) rfl) rfl) rfl, ⟨by omega, by simp [hzl], hzb.app (.cons (by omega) .nil), by omega, ?_, hv', hp⟩, by omega⟩
          rw [val_snoc, hzl]
          refine add_step hval ?_
          rw [← hgx, ← hgy]
          omega
      · have hdx : dx = 0 := by rw [hgx]; exact d24_beyond (by omega)
        (repeat (first | (with_reducible first | apply WP_seq | apply WP_region | apply wpl_nil | apply thenQ_n | apply WP_skip) | (apply wlp; ((first | apply pv_move | (apply pf_len; exact rfl) | apply pv_lss) <;> exact rfl); (first | exact fI rfl | exact fB rfl | exact fS rfl))))
        refine WP_cond_d rfl (fun h4 => ?_) (fun h4 => ?_)
        · have hlty : k < (d24 y).length := by omega
          obtain ⟨b1, o1, hs1, hc1⟩ := hsy.base (by omega)
          have hcj := hc1 k _ (List.getElem?_eq_getElem hlty) 0 _ rfl
          rw [d24_get hlty, ← hgy] at hcj
          have hcj : w4.cell? ⟨b1, o1 + k * 1, none⟩ = some (.int .i64 (dy : Int)) := hcj
          (repeat (first | with_reducible apply WP_region | (apply wlp; ((first | apply pv_move | (apply pf_load; exact rfl) | (apply pf_index; exact rfl)) <;> (first | exact rfl | assumption | exact hp.old0 (by assumption))); (first | exact fI rfl | exact fP rfl | exact fS rfl))))
          (apply wlp; (exact pv_add rfl rfl); exact int_eq (b := ((cy + dy : Nat) : Int)) (by rw [i64_in (by omega) (by omega)]; omega))
          obtain ⟨S, hS⟩ : ∃ S, S = cy + dy := ⟨_, rfl⟩
          rw [← hS]
          (repeat (first | (with_reducible first | apply WP_seq | apply WP_region | apply wpl_nil | apply thenQ_n) | (apply wlp; (first | apply pv_move | apply pv_assign); (first | exact fI rfl | exact fS rfl))))
          (apply wlp; exact pn_remI (b := 16777216) rfl rfl (by decide); exact fI rfl)
          (apply wls; exact sf_slice hp rfl rfl rfl rfl rfl rfl rfl; rintro _ w6 ⟨nb, rfl, hp⟩)
          (apply wls; exact sf_app1 eD z (S % 16777216) hp 1 0 rfl rfl rfl rfl rfl rfl (fun _ => rfl) rfl rfl rfl hv rfl rfl (by omega); rintro _ w7 ⟨s', c', rfl, hv', hp⟩)
          have hp := hp.tail
          (repeat (first | (with_reducible first | apply WP_region | apply wpl_nil | apply thenQ_n) | (apply wlp; (first | apply pv_move | apply pv_assign); (first | exact fI rfl | exact fS rfl))))
          (apply wlp; exact pn_quoI (b := 16777216) rfl rfl (by decide) (by omega); exact fI rfl)
          (repeat (first | (with_reducible first | apply WP_region | apply wpl_nil | apply thenQ_n | apply inBlk_n) | (apply wlp; (first | apply pv_move | apply pv_assign); exact fI rfl)))
          (apply wlp; exact pv_add rfl rfl; exact int_eq (i64_in (by omega) (by omega)))
          (repeat (first | (with_reducible first | apply wpl_nil | apply thenQ_n) | (apply wlp; apply pv_assign; exact fI rfl)))
          refine ⟨k + 1, S / 16777216, z ++ [S % 16777216], s', c', put_self (put_self (put_self (Same.eq (by repeat (first | exact Same.hav | exact Same.refl | refine Same.put rfl ?_ | refine Same.havs rfl ?_))) rfl) rfl) rfl, ⟨by omega, by simp [hzl], hzb.app (.cons (by omega) .nil), by omega, ?_, hv', hp⟩, by omega⟩
          rw [val_snoc, hzl]
          refine add_step hval ?_
          rw [← hgx, ← hgy]
          omega
        · have hdy : dy = 0 := by rw [hgy]; exact d24_beyond (by omega)
          obtain ⟨S, hS⟩ : ∃ S, S = cy := ⟨_, rfl⟩
          rw [← hS]
          (repeat (first | (with_reducible first | apply WP_seq | apply WP_region | apply thenQ_n | apply WP_skip) | (apply wlp; apply pv_move; (first | exact fI rfl | exact fS rfl))))
          (apply wlp; exact pn_remI (b := 16777216) rfl rfl (by decide); exact fI rfl)
          (apply wls; exact sf_slice hp rfl rfl rfl rfl rfl rfl rfl; rintro _ w6 ⟨nb, rfl, hp⟩)
          (apply wls; exact sf_app1 eD z (S % 16777216) hp 1 0 rfl rfl rfl rfl rfl rfl (fun _ => rfl) rfl rfl rfl hv rfl rfl (by omega); rintro _ w7 ⟨s', c', rfl, hv', hp⟩)
          have hp := hp.tail
          (repeat (first | (with_reducible first | apply WP_region | apply wpl_nil | apply thenQ_n) | (apply wlp; (first | apply pv_move | apply pv_assign); (first | exact fI rfl | exact fS rfl))))
          (apply wlp; exact pn_quoI (b := 16777216) rfl rfl (by decide) (by omega); exact fI rfl)
          (repeat (first | (with_reducible first | apply WP_region | apply wpl_nil | apply thenQ_n | apply inBlk_n) | (apply wlp; (first | apply pv_move | apply pv_assign); exact fI rfl)))
          (apply wlp; exact pv_add rfl rfl; exact int_eq (i64_in (by omega) (by omega)))
          (repeat (first | (with_reducible first | apply wpl_nil | apply thenQ_n) | (apply wlp; apply pv_assign; exact fI rfl)))
          refine ⟨k + 1, S / 16777216, z ++ [S % 16777216], s', c', put_self (put_self (put_self (Same.eq (by repeat (first | exact Same.hav | exact Same.refl | refine Same.put rfl ?_ | refine Same.havs rfl ?_))) rfl) rfl) rfl, ⟨by omega, by simp [hzl], hzb.app (.cons (by omega) .nil), by omega, ?_, hv', hp⟩, by omega⟩
          rw [val_snoc, hzl]
          refine add_step hval ?_
          rw [← hgx, ← hgy]
          omega
    · have hend : (d24 x).length ≤ k ∧ (d24 y).length ≤ k ∧ cy = 0 := by simp at h; omega
      obtain ⟨h1, h2, rfl⟩ := hend
      have hV : val 16777216 z = x + y := by
        rw [Nat.zero_mul, Nat.add_zero, Nat.mod_eq_of_lt (d24_lt h1), Nat.mod_eq_of_lt (d24_lt h2)] at hval
        exact hval
      have h70 := c70 z st ct w5 (ownL_At hp 0 rfl hv (fun _ => rfl)) hzb (by omega)
      rw [hV] at h70
      (repeat (first | (with_reducible first | apply WP_seq | apply WP_region | apply thenQ_n | apply thenQ_exit | apply WP_exit) | ((with_reducible apply inBlk_same); exact rfl) | (apply wlp; apply pv_move; exact fS rfl)))
      (apply wls; exact st_call rfl ent65 rfl h70; rintro _ w6 ⟨rfl, hk2⟩; have hp := hp.call hk2)
      (repeat (first | (with_reducible first | apply wpl_nil | apply thenQ_n | apply WP_ret) | (apply wlp; apply pv_assign; exact fT rfl)))
      exact ret_tmp rfl rfl ⟨_, rfl, rfl, hk0.trans hp.keeps (by simp)⟩
theorem c43 (x y : Nat) (w : World) (hx : Fit x) (hy : Fit y) : Ret Tryz.prog 36 [.string (ofN x), .string (ofN y)] w (fun v w' => v = .string (ofN (x * y)) ∧ Keeps [] w w') := by
  have hlx := hx.d24s
  have hly := hy.d24s
  refine Ret.of_WP Tryz.func36 rfl Tryz.ntmps36 rfl ?_
  have hp := Hp.start (M := []) (w := w)
  (repeat (first | (with_reducible first | apply WP_seq | apply WP_region | apply wpl_nil | apply thenQ_n) | (apply wlp; (first | apply pv_move | apply pv_assign); exact fT rfl)))
  (apply wls; exact st_call rfl ent58 rfl (c68 x 3 _ (by decide) hx); rintro _ w1 ⟨⟨q1, hq1, rfl⟩, hk⟩; have hp := hp.call hk)
  (repeat (first | (with_reducible first | apply WP_seq | apply WP_region | apply wpl_nil | apply thenQ_n) | (apply wlp; ((first | apply pv_move | apply pv_assign | apply pv_extract) <;> exact rfl); (first | exact fI rfl | exact fB rfl | exact fT rfl | exact fU rfl))))
  (apply wls; exact st_call rfl ent58 rfl (c68 y 4 _ (by decide) hy); rintro _ w2 ⟨⟨q2, hq2, rfl⟩, hk⟩; have hp := hp.call hk)
  (repeat (first | (with_reducible first | apply WP_seq | apply WP_region | apply wpl_nil | apply thenQ_n) | ((first | apply wlp | (apply wlg; exact rfl; exact rfl)); (intros; ((first | apply pv_move | apply pv_assign | exact pv_and rfl rfl rfl | apply pv_extract) <;> exact rfl)); (intros; (first | exact fI rfl | exact fB rfl | exact fU rfl)))))
  refine WP_cond rfl (fun h => ?_) (fun _ => ?_)
  · have hq : q1 = true ∧ q2 = true := by cases q1 <;> cases q2 <;> simp at h ⊢
    obtain ⟨rfl, rfl⟩ := hq
    have h1 := small3 (of_decide_eq_true hq1.symm)
    have h2 := small4 (of_decide_eq_true hq2.symm)
    have h3 : x * y ≤ 16777216 * 4294967296 := Nat.mul_le_mul (by omega) (by omega)
    (repeat (first | (with_reducible first | apply WP_seq | apply WP_region) | (apply wlp; apply pv_move; exact fI rfl)))
    (apply wlp; exact pv_mul rfl rfl; exact int_eq (b := ((x * y : Nat) : Int)) (by rw [if_pos rfl, if_pos rfl, ← Int.natCast_mul, i64_in (by omega) (by omega)]))
    (apply wls; exact st_call rfl ent37 rfl (c40 ((x * y : Nat) : Int) _ (by omega)); rintro _ w3 ⟨rfl, hk⟩; have hp := hp.call hk)
    rw [Int.toNat_natCast]
    (repeat (first | (with_reducible first | apply wpl_nil | apply thenQ_n | apply thenQ_ret | apply WP_ret) | (apply wlp; apply pv_assign; exact fT rfl)))
    exact ret_tmp rfl rfl ⟨_, rfl, rfl, hp.keeps⟩
  · (repeat (first | (with_reducible first | apply WP_seq | apply WP_region | apply thenQ_n | apply WP_skip) | (apply wlp; apply pv_move; exact fT rfl)))
    (apply wls; exact st_call rfl ent59 rfl (c69 x _ hx); rintro _ w3 ⟨s, c, rfl, hv1, hpo⟩)
    have hsx : SlAt w3 1 eD s (d24 x) := ownL_At hpo 0 rfl hv1 (fun _ => rfl)
    have hp := hp.call hpo.keeps
    clear hpo
    (repeat (first | (with_reducible first | apply WP_seq | apply WP_region | apply wpl_nil | apply thenQ_n) | (apply wlp; (first | apply pv_move | apply pv_assign); (first | exact fS rfl | exact fT rfl))))
    (apply wls; exact st_call rfl ent59 rfl (c69 y _ hy); rintro _ w4 ⟨s2, c2, rfl, hv2, hpo⟩)
    have hsy : SlAt w4 1 eD s2 (d24 y) := ownL_At hpo 0 rfl hv2 (fun _ => rfl)
    have hsx := hsx.keep0 hpo.keeps
    have hk0 := hp.keeps.trans hpo.keeps (by simp)
    clear hpo hp
    have hp := Hp.start (M := []) (w := w4)
    (repeat (first | (with_reducible first | apply WP_seq | apply WP_region | apply wpl_nil | apply thenQ_n) | (apply wlp; ((first | apply pv_move | apply pv_assign | (apply pf_len; exact rfl)) <;> exact rfl); (first | exact fI rfl | exact fS rfl))))
    (apply wlp; (exact pv_add rfl rfl); exact int_eq (b := (((d24 x).length + (d24 y).length : Nat) : Int)) (by rw [i64_in (by omega) (by omega)]; omega))
    (apply wls; exact sf_make eD 0 hp rfl rfl rfl rfl rfl rfl rfl (by omega) rfl; rintro _ w5 ⟨g, rfl, hv, hp⟩)
    (repeat (first | (with_reducible first | apply WP_seq | apply WP_block | apply WP_region | apply wpl_nil | apply thenQ_n) | (apply wlp; apply pv_assign; (first | exact fI rfl | exact fS rfl))))
    refine WP_loop2 [12, 13, 14, 15, 44, 45, 46, 47, 48, 49, 50, 51, 52, 53, 54, 55, 56, 57, 58, 59, 60, 61, 62, 63, 64, 65, 66, 67, 68, 69, 70, 71, 72, 73, 74, 75, 76, 77, 78, 79, 80, 81, 82, 83, 84, 85, 86, 87, 88, 89] (fun (i : Nat) (_z : List Nat) F => F.put 12 (.int .i64 (i : Int)))
      (fun i z w' => i ≤ (d24 x).length ∧ z.length = (d24 x).length + (d24 y).length ∧ Bd 16777216 z ∧ val 16777216 z = x % 16777216 ^ i * y ∧ SVL (some ⟨g, 0, none⟩) ((d24 x).length + (d24 y).length) z ∧ Hp w4 [] w' [ownL eD 3 1 (some ⟨g, 0, none⟩) ((d24 x).length + (d24 y).length) z])
      (fun i _ => (d24 x).length - i) 0 (List.replicate ((d24 x).length + (d24 y).length) 0) (put_self (Same.eq .refl) rfl) ⟨Nat.zero_le _, by simp, zeros_bd (by decide) _, by simp [val_zeros, Nat.mod_one], hv, hp⟩ ?_
    clear hp hv
    rintro u i z w6 ⟨hi, hzl, hzb, hval, hv, hp⟩
    (repeat (first | (with_reducible first | apply WP_seq | apply WP_region | apply wpl_nil | apply thenQ_n) | (apply wlp; ((first | apply pv_move | (apply pf_len; exact rfl) | apply pv_lss) <;> exact rfl); (first | exact fI rfl | exact fB rfl | exact fS rfl))))
    refine WP_cond_d rfl (fun h2 => ?_) (fun h2 => ?_)
    · have hlt : i < (d24 x).length := by omega
      obtain ⟨b0, o0, hs0, hc0⟩ := hsx.base (by omega)
      have hci := hc0 i _ (List.getElem?_eq_getElem hlt) 0 _ rfl
      have hbd := (d24_bd x).get hlt
      have hg := d24_get hlt
      generalize (d24 x)[i] = dx at hci hbd hg
      have hci : w4.cell? ⟨b0, o0 + i * 1, none⟩ = some (.int .i64 (dx : Int)) := hci
      have htop : z[i + (d24 y).length]? = some 0 := by
        have h1 : i + (d24 y).length < z.length := by omega
        rw [List.getElem?_eq_getElem h1]
        congr 1
        refine val_high (b := 16777216) (by decide) (k := i + (d24 y).length) ?_ h1 (Nat.le_refl _)
        rw [hval, Nat.pow_add]
        exact Nat.mul_lt_mul'' (Nat.mod_lt _ (Nat.pow_pos (by decide))) (d24_lt (Nat.le_refl _))
      (repeat (first | (with_reducible first | apply WP_seq | apply WP_block | apply WP_region | apply wpl_nil | apply thenQ_n | apply WP_skip) | (apply wlp; apply pv_assign; exact fI rfl)))
      refine WP_loop3 [13, 14, 15, 50, 51, 52, 53, 54, 55, 56, 57, 58, 59, 60, 61, 62, 63, 64, 65, 66, 67, 68, 69, 70, 71, 72, 73, 74, 75, 76, 77, 78, 79, 80, 81, 82] (fun (j cy : Nat) (_z : List Nat) F => (F.put 14 (.int .i64 (j : Int))).put 13 (.int .i64 (cy : Int)))
        (fun j cy z w' => j ≤ (d24 y).length ∧ z.length = (d24 x).length + (d24 y).length ∧ Bd 16777216 z ∧ cy < 16777216 ∧ val 16777216 z + cy * 16777216 ^ (i + j) = x % 16777216 ^ i * y + dx * (y % 16777216 ^ j) * 16777216 ^ i ∧ z[i + (d24 y).length]? = some 0 ∧ SVL (some ⟨g, 0, none⟩) ((d24 x).length + (d24 y).length) z ∧ Hp w4 [] w' [ownL eD 3 1 (some ⟨g, 0, none⟩) ((d24 x).length + (d24 y).length) z])
        (fun j _ _ => (d24 y).length - j) 0 0 z (put_self (put_self (Same.eq .refl) rfl) rfl) ⟨Nat.zero_le _, hzl, hzb, by omega, by simp [hval, Nat.mod_one], htop, hv, hp⟩ ?_
      clear hp hv hzl hzb hval htop z
      rintro u2 j cy z w7 ⟨hj, hzl, hzb, hcy, hval, htop, hv, hp⟩
      (repeat (first | (with_reducible first | apply WP_seq | apply WP_region | apply wpl_nil | apply thenQ_n) | (apply wlp; ((first | apply pv_move | (apply pf_len; exact rfl) | apply pv_lss) <;> exact rfl); (first | exact fI rfl | exact fB rfl | exact fS rfl))))
      refine WP_cond_d rfl (fun h3 => ?_) (fun h3 => ?_)
      · have hltj : j < (d24 y).length := by omega
        have hij : i + j < (d24 x).length + (d24 y).length := by omega
        have hijz : i + j < z.length := by omega
        obtain ⟨b1, o1, hs1, hc1⟩ := hsy.base (by omega)
        have hcj := hc1 j _ (List.getElem?_eq_getElem hltj) 0 _ rfl
        have hbd2 := (d24_bd y).get hltj
        have hg2 := d24_get hltj
        generalize (d24 y)[j] = dy at hcj hbd2 hg2
        have hcj : w4.cell? ⟨b1, o1 + j * 1, none⟩ = some (.int .i64 (dy : Int)) := hcj
        have hgz := List.getElem?_eq_getElem hijz
        have hzo := hzb.get hijz
        have hset := fun d => val_set 16777216 z (i + j) d hijz
        generalize z[i + j] = old at hgz hzo hset
        have hcz : w7.cell? ⟨g, 0 + (i + j) * 1, none⟩ = some (.int .i64 (old : Int)) := own_elem hp 0 rfl hv (fun _ => rfl) hgz 0 _ rfl
        have hfit := mul_fit hcy hbd hbd2 hzo
        obtain ⟨pr, hpr⟩ : ∃ pr, pr = dx * dy := ⟨_, rfl⟩
        rw [← hpr] at hfit
        (repeat (with_reducible first | apply WP_seq | apply WP_block | apply thenQ_n | apply WP_skip))
        have HP7 := hp
        refine WP_draw mixed (by kernel_rfl) (fun w' => Hp w7 [] w' []) Hp.start.drew ?_
        (apply wdp; exact rfl; (intro w hp; exact pv_move); exact fS rfl)
        (apply wdp; exact rfl; (intro w hp; exact pv_move); exact fI rfl)
        (apply wdp; exact rfl; (intro w hp; exact pv_move); exact fI rfl)
        (apply wdp; exact rfl; (intro w hp; exact pv_add rfl rfl); exact int_eq (b := ((i + j : Nat) : Int)) (by rw [i64_in (by omega) (by omega)]; omega))
        (apply wdp; exact rfl; (intro w hp; exact pf_index rfl rfl rfl rfl hij); exact fP rfl)
        (apply wdp; exact rfl; (intro w hp; exact pf_load rfl rfl (hp.old0 hcz)); exact fI rfl)
        (apply wdp; exact rfl; (intro w hp; exact pv_move); exact fS rfl)
        (apply wdp; exact rfl; (intro w hp; exact pv_move); exact fI rfl)
        (apply wdp; exact rfl; (intro w hp; exact pf_index rfl rfl rfl hs0 hlt); exact fP rfl)
        have hci7 := HP7.keeps.cell hci (by simp)
        (apply wdp; exact rfl; (intro w hp; exact pf_load rfl rfl (hp.old0 hci7)); exact fI rfl)
        (apply wdp; exact rfl; (intro w hp; exact pv_move); exact fS rfl)
        (apply wdp; exact rfl; (intro w hp; exact pv_move); exact fI rfl)
        (apply wdp; exact rfl; (intro w hp; exact pf_index rfl rfl rfl hs1 hltj); exact fP rfl)
        have hcj7 := HP7.keeps.cell hcj (by simp)
        (apply wdp; exact rfl; (intro w hp; exact pf_load rfl rfl (hp.old0 hcj7)); exact fI rfl)
        (apply wdp; exact rfl; (intro w hp; exact pv_mul rfl rfl); exact int_eq (b := (pr : Int)) (by rw [← Int.natCast_mul, ← hpr, i64_in (by omega) (by omega)]))
        (apply wdp; exact rfl; (intro w hp; exact pv_add rfl rfl); exact int_eq (b := ((old + pr : Nat) : Int)) (by rw [i64_in (by omega) (by omega)]; omega))
        (apply wdp; exact rfl; (intro w hp; exact pv_move); exact fI rfl)
        (apply wdp; exact rfl; (intro w hp; exact pv_add rfl rfl); exact int_eq (b := ((old + pr + cy : Nat) : Int)) (by rw [i64_in (by omega) (by omega)]; omega))
        obtain ⟨S, hS⟩ : ∃ S, S = old + pr + cy := ⟨_, rfl⟩
        rw [← hS]
        (repeat ((apply wdp; exact rfl); (intro w hp; intros; apply pv_assign); (intros; exact fI rfl)))
        refine wpd_nil ?_
        have hp := HP7.drew
        (repeat (first | (with_reducible first | apply WP_seq | apply WP_region | apply thenQ_n) | (apply wlp; apply pv_move; (first | exact fI rfl | exact fS rfl))))
        (apply wlp; (exact pv_add rfl rfl); exact int_eq (b := ((i + j : Nat) : Int)) (by rw [i64_in (by omega) (by omega)]; omega))
        (repeat (apply wlp; apply pv_move; exact fI rfl))
        (apply wlp; exact pn_remI (b := 16777216) rfl rfl (by decide); exact fI rfl)
        (repeat (apply wlp; ((apply pf_index; exact rfl) <;> (first | exact rfl | assumption)); exact fP rfl))
        (apply wls0; exact st_setL eD z (i + j) _ hp 0 rfl hv hijz rfl rfl (fun _ => rfl) rfl rfl (sizeTy_ok rfl); rintro _ w8 ⟨rfl, hp⟩)
        (repeat (first | (with_reducible first | apply WP_region | apply wpl_nil | apply thenQ_n) | (apply wlp; apply pv_move; exact fI rfl)))
        (apply wlp; exact pn_quoI (b := 16777216) rfl rfl (by decide) (by omega); exact fI rfl)
        (repeat (first | (with_reducible first | apply WP_region | apply wpl_nil | apply thenQ_n | apply inBlk_n) | (apply wlp; (first | apply pv_move | apply pv_assign); exact fI rfl)))
        (apply wlp; exact pv_add rfl rfl; exact int_eq (i64_in (by omega) (by omega)))
        (repeat (first | (with_reducible first | apply wpl_nil | apply thenQ_n) | (apply wlp; apply pv_assign; exact fI rfl)))
        refine ⟨j + 1, _, _, put_self (put_self (Same.eq (by repeat (first | exact Same.hav | exact Same.refl | refine Same.put rfl ?_ | refine Same.havs rfl ?_))) rfl) rfl, ⟨by omega, ?_, ?_, ?_, ?_, ?_, hv.set _ _, hp⟩, by omega⟩
        · rw [List.length_set, hzl]
        · exact hzb.set (by omega)
        · omega
        · exact mul_step hval (by rw [← hg2, ← hpr]; omega) (hset _)
        · rw [List.getElem?_set_ne (by omega)]
          exact htop
      · obtain rfl : j = (d24 y).length := by omega
        have hij : i + (d24 y).length < (d24 x).length + (d24 y).length := by omega
        have hijz : i + (d24 y).length < z.length := by omega
        (repeat (first | (with_reducible first | apply WP_region | apply thenQ_n | apply thenQ_exit | apply WP_exit) | ((with_reducible apply inBlk_same); exact rfl) | (apply wlp; ((first | apply pv_move | (apply pf_len; exact rfl)) <;> exact rfl); (first | exact fI rfl | exact fS rfl))))
        (apply wlp; (exact pv_add rfl rfl); exact int_eq (b := ((i + (d24 y).length : Nat) : Int)) (by rw [i64_in (by omega) (by omega)]; omega))
        (repeat (apply wlp; ((first | apply pv_move | (apply pf_index; exact rfl)) <;> (first | exact rfl | assumption)); (first | exact fI rfl | exact fP rfl)))
        (apply wls0; exact st_setL eD z (i + (d24 y).length) _ hp 0 rfl hv hijz rfl rfl (fun _ => rfl) rfl rfl (sizeTy_ok rfl); rintro _ w8 ⟨rfl, hp⟩)
        (repeat (first | (with_reducible first | apply WP_region | apply wpl_nil | apply thenQ_n | apply inBlk_n) | (apply wlp; apply pv_move; exact fI rfl)))
        (apply wlp; exact pv_add rfl rfl; exact int_eq (i64_in (by omega) (by omega)))
        (repeat (first | (with_reducible first | apply wpl_nil | apply thenQ_n) | (apply wlp; apply pv_assign; exact fI rfl)))
        refine ⟨i + 1, _, put_self (Same.eq (by repeat (first | exact Same.hav | exact Same.refl | refine Same.put rfl ?_ | refine Same.havs rfl ?_))) rfl, ⟨by omega, ?_, ?_, ?_, hv.set _ _, hp⟩, by omega⟩
        · rw [List.length_set, hzl]
        · exact hzb.set hcy
        · have h1 := val_set 16777216 z (i + (d24 y).length) cy hijz
          have h0 : z[i + (d24 y).length] = 0 := by
            rw [List.getElem?_eq_getElem hijz] at htop
            simpa using htop
          rw [h0, Nat.mul_zero, Nat.add_zero, Nat.mul_comm (16777216 ^ _) cy, hval, Nat.mod_eq_of_lt (d24_lt (Nat.le_refl (d24 y).length))] at h1
          rw [h1, mul_row, ← hg]
    · obtain rfl : i = (d24 x).length := by omega
      rw [Nat.mod_eq_of_lt (d24_lt (Nat.le_refl _))] at hval
      have h70 := c70 z (some ⟨g, 0, none⟩) ((d24 x).length + (d24 y).length) w6 (ownL_At hp 0 rfl hv (fun _ => rfl)) hzb (by omega)
      rw [hval, hzl] at h70
      (repeat (first | (with_reducible first | apply WP_seq | apply WP_region | apply thenQ_n | apply thenQ_exit | apply WP_exit) | ((with_reducible apply inBlk_same); exact rfl) | (apply wlp; apply pv_move; exact fS rfl)))
      (apply wls; exact st_call rfl ent65 rfl h70; rintro _ w7 ⟨rfl, hk2⟩; have hp := hp.call hk2)
      (repeat (first | (with_reducible first | apply wpl_nil | apply thenQ_n | apply WP_ret) | (apply wlp; apply pv_assign; exact fT rfl)))
      exact ret_tmp rfl rfl ⟨_, rfl, rfl, hk0.trans hp.keeps (by simp)⟩
end Go.Proofs.YtfjbioghpgmkiaaGreatDoor
/- sortesref01: times, cmp, digit, Quo, Gcd, Right; conditions: the numbers are short. -/
namespace Go.Proofs.YtfjbioghpgmkiaaGreatDoor
open Go.Eng Go.Dig

theorem times_step {b x d i c z c' V : Nat} (h : V + c * b ^ i = x % b ^ i * d) (hz : z + b * c' = x / b ^ i % b * d + c) : (V + b ^ i * z) + c' * b ^ (i + 1) = x % b ^ (i + 1) * d := by
  rw [mod_step, Nat.add_mul, ← h, Nat.mul_assoc, Nat.pow_succ]
  have e : b ^ i * (z + b * c') = b ^ i * (x / b ^ i % b * d + c) := by rw [hz]
  rw [Nat.mul_add, Nat.mul_add] at e
  have e2 : b ^ i * (b * c') = c' * (b ^ i * b) := by rw [Nat.mul_comm c', Nat.mul_assoc]
  have e3 : b ^ i * c = c * b ^ i := Nat.mul_comm _ _
  omega
theorem d24_lenT {x d : Nat} (hd : d < 16777216) : (d24 (x * d)).length ≤ (d24 x).length + 1 := by
  refine d24_len ?_
  rw [Nat.pow_succ]
  have h1 : x < 16777216 ^ (d24 x).length := d24_lt (Nat.le_refl _)
  by_cases h0 : d = 0
  · subst h0
    simp
    exact Nat.pow_pos (by decide)
  · exact Nat.mul_lt_mul_of_lt_of_le h1 (by omega) (by decide)
theorem cmp_eq {b x y n : Nat} (hb : 0 < b) (hx : x < b ^ n) (hy : y < b ^ n) (h : ∀ j, j < n → x / b ^ j % b = y / b ^ j % b) : x = y := by
  have h1 := cmp_top (b := b) (x := x) (y := y) (i := 0) (n := n) (fun j hj => by
    by_cases hjn : j < n
    · exact h j hjn
    · have e : ∀ z, z < b ^ n → z / b ^ j = 0 := fun z hz => Nat.div_eq_of_lt (Nat.lt_of_lt_of_le hz (Nat.pow_le_pow_right hb (by omega)))
      rw [e x hx, e y hy]) hb hx hy
  have h2 := div_step b x 0
  have h3 := div_step b y 0
  by_cases hn : 0 < n
  · have h4 := h 0 hn
    rw [Nat.pow_zero, Nat.div_one] at h2 h3 h4
    rw [Nat.div_one] at h4
    rw [h2, h3, h1, h4]
  · obtain rfl : n = 0 := by omega
    rw [Nat.pow_zero] at hx hy
    omega

attribute [local irreducible] PV StepF wpl wpd WP Ret
attribute [local irreducible] Fit

theorem c99 (x d : Nat) (s : Option Addr) (c : Nat) (w : World) (hx : SlAt w 1 eD s (d24 x)) (hlx : (d24 x).length ≤ 100000) (hd : d < 16777216) :
    Ret Tryz.prog 64 [.slice s (d24 x).length c, .int .i64 (d : Int)] w (fun v w' => ∃ s' c', v = .slice s' (d24 (x * d)).length c' ∧ (d24 (x * d)).length ≤ c' ∧ SlAt w' 1 eD s' (d24 (x * d)) ∧ Keeps [] w w') := by
  refine Ret.of_WP Tryz.func64 rfl Tryz.ntmps64 rfl ?_
  have hp := (Hp.start (M := []) (w := w)).nilL eD 3 1
  (repeat (first | (with_reducible first | apply WP_seq | apply WP_block | apply WP_region | apply wpl_nil | apply thenQ_n) | (apply wlp; apply pv_assign; (first | exact fI rfl | exact fS rfl))))
  refine WP_loop5 [5, 6, 7, 8, 9, 10, 11, 12, 13, 14, 15, 16, 17, 18, 19, 20, 21, 22, 23, 24, 25, 26, 27, 28, 29] (fun (i cy : Nat) (z : List Nat) (st : Option Addr) (ct : Nat) F => ((F.put 7 (.int .i64 (i : Int))).put 6 (.int .i64 (cy : Int))).put 5 (.slice st z.length ct))
    (fun i cy z st ct w' => i ≤ (d24 x).length ∧ z.length = i ∧ Bd 16777216 z ∧ cy < 16777216 ∧ val 16777216 z + cy * 16777216 ^ i = x % 16777216 ^ i * d ∧ SVL st ct z ∧ Hp w [] w' [ownL eD 3 1 st ct z])
    (fun i _ _ _ _ => (d24 x).length - i) 0 0 [] none 0 (put_self (put_self (put_self (Same.eq .refl) rfl) rfl) rfl) ⟨Nat.zero_le _, rfl, .nil, by decide, by simp [val, Nat.mod_one], SVL.nil, hp⟩ ?_
  clear hp
  rintro u i cy z st ct w2 ⟨hi, hzl, hzb, hcy, hval, hv, hp⟩
  (repeat (first | (with_reducible first | apply WP_seq | apply WP_region | apply wpl_nil | apply thenQ_n) | (apply wlp; ((first | apply pv_move | (apply pf_len; exact rfl) | apply pv_lss) <;> exact rfl); (first | exact fI rfl | exact fB rfl | exact fS rfl))))
  refine WP_cond_d rfl (fun h2 => ?_) (fun h2 => ?_)
  · have hlt : i < (d24 x).length := by omega
    obtain ⟨b0, o0, hs0, hc0⟩ := hx.base (by omega)
    have hci := hc0 i _ (List.getElem?_eq_getElem hlt) 0 _ rfl
    have hbd := (d24_bd x).get hlt
    have hg := d24_get hlt
    generalize (d24 x)[i] = dx at hci hbd hg
    have hci : w.cell? ⟨b0, o0 + i * 1, none⟩ = some (.int .i64 (dx : Int)) := hci
    have hm : dx * d ≤ 16777215 * 16777215 := Nat.mul_le_mul (by omega) (by omega)
    obtain ⟨q, hq⟩ : ∃ q, q = dx * d + cy := ⟨_, rfl⟩
    (repeat (first | (with_reducible first | apply WP_seq | apply WP_block | apply WP_region | apply thenQ_n | apply WP_skip) | (apply wlp; ((first | apply pv_move | (apply pf_load; exact rfl) | (apply pf_index; exact rfl)) <;> (first | exact rfl | assumption | exact hp.old0 (by assumption))); (first | exact fI rfl | exact fP rfl | exact fS rfl))))
    (apply wlp; exact pv_mul rfl rfl; exact int_eq (b := ((dx * d : Nat) : Int)) (by rw [← Int.natCast_mul, i64_in (by omega) (by omega)]))
    (apply wlp; apply pv_move; exact fI rfl)
    (apply wlp; exact pv_add rfl rfl; exact int_eq (b := (q : Int)) (by rw [i64_in (by omega) (by omega)]; omega))
    (repeat (first | (with_reducible first | apply WP_seq | apply WP_region | apply wpl_nil | apply thenQ_n) | (apply wlp; (first | apply pv_move | apply pv_assign); (first | exact fI rfl | exact fS rfl))))
    (apply wlp; exact pn_remI (b := 16777216) rfl rfl (by decide); exact fI rfl)
    (apply wls; exact sf_slice hp rfl rfl rfl rfl rfl rfl rfl; rintro _ w3 ⟨nb, rfl, hp⟩)
    (apply wls; exact sf_app1 eD z (q % 16777216) hp 1 0 rfl rfl rfl rfl rfl rfl (fun _ => rfl) rfl rfl rfl hv rfl rfl (by omega); rintro _ w4 ⟨s', c', rfl, hv', hp⟩)
    have hp := hp.tail
    (repeat (first | (with_reducible first | apply WP_region | apply wpl_nil | apply thenQ_n) | (apply wlp; (first | apply pv_move | apply pv_assign); (first | exact fI rfl | exact fS rfl))))
    (apply wlp; exact pn_quoI (b := 16777216) rfl rfl (by decide) (by omega); exact fI rfl)
    (repeat (first | (with_reducible first | apply WP_region | apply wpl_nil | apply thenQ_n | apply inBlk_n) | (apply wlp; (first | apply pv_move | apply pv_assign); exact fI rfl)))
    (apply wlp; exact pv_add rfl rfl; exact int_eq (i64_in (by omega) (by omega)))
    (repeat (first | (with_reducible first | apply wpl_nil | apply thenQ_n) | (apply wlp; apply pv_assign; exact fI rfl)))
    refine ⟨i + 1, q / 16777216, z ++ [q % 16777216], s', c', put_self (put_self (put_self (Same.eq (by repeat (first | exact Same.hav | exact Same.refl | refine Same.put rfl ?_ | refine Same.havs rfl ?_))) rfl) rfl) rfl, ⟨by omega, by simp [hzl], hzb.app (.cons (by omega) .nil), by omega, ?_, hv', hp⟩, by omega⟩
    rw [val_snoc, hzl]
    refine times_step hval ?_
    rw [← hg]
    omega
  · obtain rfl : i = (d24 x).length := by omega
    have hxl : x < 16777216 ^ (d24 x).length := d24_lt (Nat.le_refl _)
    rw [Nat.mod_eq_of_lt hxl] at hval
    (repeat (first | (with_reducible first | apply WP_seq | apply WP_region | apply thenQ_n | apply thenQ_exit | apply WP_exit) | ((with_reducible apply inBlk_same); exact rfl) | (apply wlp; apply pv_move; (first | exact fI rfl | exact fS rfl))))
    (apply wls; exact sf_slice hp rfl rfl rfl rfl rfl rfl rfl; rintro _ w3 ⟨nb, rfl, hp⟩)
    (apply wls; exact sf_app1 eD z cy hp 1 0 rfl rfl rfl rfl rfl rfl (fun _ => rfl) rfl rfl rfl hv rfl rfl (by omega); rintro _ w4 ⟨s', c', rfl, hv', hp⟩)
    have hp := hp.tail
    have hst : SlAt w4 1 eD s' (z ++ [cy]) := ownL_At hp 0 rfl hv' (fun _ => rfl)
    have hzb2 : Bd 16777216 (z ++ [cy]) := hzb.app (.cons hcy .nil)
    have hV : val 16777216 (z ++ [cy]) = x * d := by
      rw [val_snoc, hzl, ← hval, Nat.mul_comm cy]
    have htz : trimL (z ++ [cy]) = d24 (x * d) := by rw [trim_d24 hzb2, hV]
    have h89 := c89 (z ++ [cy]) s' c' w4 hv'.cap (by simp; omega) hst
    rw [htz] at h89
    (apply wls; exact st_call rfl ent60 rfl h89; rintro _ w5 ⟨rfl, hk⟩; have hp := hp.call hk)
    (repeat (first | (with_reducible first | apply wpl_nil | apply thenQ_n | apply WP_ret) | (apply wlp; apply pv_assign; exact fS rfl)))
    refine ret_tmp rfl rfl ⟨_, rfl, s', c', rfl, ?_, ?_, hp.keeps⟩
    · rw [← htz]
      exact Nat.le_trans (trimL_pre _).length_le hv'.cap
    · rw [← htz]
      exact (hst.pre (trimL_pre _)).keep0 hk

theorem c97 (x y : Nat) (s s2 : Option Addr) (c c2 : Nat) (w : World) (hx : SlAt w 1 eD s (d24 x)) (hy : SlAt w 1 eD s2 (d24 y)) (hlx : (d24 x).length ≤ 1000000) (hly : (d24 y).length ≤ 1000000) :
    Ret Tryz.prog 61 [.slice s (d24 x).length c, .slice s2 (d24 y).length c2] w (fun v w' => ∃ r : Int, v = .int .i64 r ∧ (0 ≤ r ↔ y ≤ x) ∧ (r ≤ 0 ↔ x ≤ y) ∧ Keeps [] w w') := by
  refine Ret.of_WP Tryz.func61 rfl Tryz.ntmps61 rfl ?_
  have hp := Hp.start (M := []) (w := w)
  (repeat (first | (with_reducible first | apply WP_seq | apply WP_region | apply wpl_nil | apply thenQ_n) | (apply wlp; ((first | apply pv_move | apply pv_assign | (apply pf_len; exact rfl) | (apply pv_neq; (first | exact rfl | exact ev_sel rfl (by assumption)))) <;> exact rfl); (first | exact fI rfl | exact fB rfl | exact fS rfl))))
  refine WP_cond_nd rfl (fun h => ?_) (fun h => ?_)
  · (repeat (first | (with_reducible first | apply WP_seq | apply WP_region) | (apply wlp; ((first | apply pv_move | (apply pf_len; exact rfl)) <;> exact rfl); (first | exact fI rfl | exact fS rfl))))
    (apply wlp; exact pv_sub rfl rfl; exact int_eq (i64_in (by omega) (by omega)))
    (repeat (first | (with_reducible first | apply wpl_nil | apply thenQ_n | apply thenQ_ret | apply WP_ret) | (apply wlp; apply pv_assign; exact fI rfl)))
    refine ret_tmp rfl rfl ⟨_, rfl, _, rfl, ?_, ?_, hp.keeps⟩
    all_goals
      rcases Nat.lt_or_ge (d24 x).length (d24 y).length with hl | hl
      · have := digs_len_lt (b := 16777216) (x := x) (y := y) (by decide) hl
        omega
      · have := digs_len_lt (b := 16777216) (x := y) (y := x) (by decide) (show (d24 y).length < (d24 x).length by omega)
        omega
  · have hle : (d24 x).length = (d24 y).length := by omega
    have hxl : x < 16777216 ^ (d24 x).length := d24_lt (Nat.le_refl _)
    have hyl : y < 16777216 ^ (d24 x).length := by rw [hle]; exact d24_lt (Nat.le_refl _)
    (repeat (first | (with_reducible first | apply WP_seq | apply WP_region | apply thenQ_n | apply WP_skip) | (apply wlp; ((first | apply pv_move | (apply pf_len; exact rfl)) <;> exact rfl); (first | exact fI rfl | exact fS rfl))))
    (apply wlp; exact pv_sub rfl rfl; exact int_eq (i64_in (by omega) (by omega)))
    (repeat (first | (with_reducible first | apply WP_block | apply wpl_nil | apply thenQ_n) | (apply wlp; apply pv_assign; exact fI rfl)))
    refine WP_loopS [4, 5, 19, 20, 21, 22, 23, 24, 25, 26, 27, 28, 29, 30, 31, 32, 33, 34, 35, 36, 37, 38, 39, 40] (fun (k : Nat) F => F.put 5 (.int .i64 ((k : Int) - 1))) (fun k w' => k ≤ (d24 x).length ∧ (∀ j, k ≤ j → j < (d24 x).length → x / 16777216 ^ j % 16777216 = y / 16777216 ^ j % 16777216) ∧ Hp w [] w' []) (fun k => k) (d24 x).length (put_self (Same.eq .refl) rfl) ⟨Nat.le_refl _, fun j h1 h2 => by omega, hp⟩ ?_
    clear hp
    rintro u k w1 ⟨hk, hall, hp⟩
    (repeat (first | (with_reducible first | apply WP_seq | apply WP_region | apply wpl_nil | apply thenQ_n) | (apply wlp; ((first | apply pv_move | apply pv_geq) <;> exact rfl); (first | exact fI rfl | exact fB rfl))))
    refine WP_cond_d rfl (fun h2 => ?_) (fun h2 => ?_)
    · obtain ⟨i, rfl⟩ : ∃ i, k = i + 1 := ⟨k - 1, by omega⟩
      rw [show (((i + 1 : Nat) : Int) - 1) = (i : Int) from by omega]
      have hlt : i < (d24 x).length := by omega
      have hlty : i < (d24 y).length := by omega
      obtain ⟨b0, o0, hs0, hc0⟩ := hx.base (by omega)
      obtain ⟨b1, o1, hs1, hc1⟩ := hy.base (by omega)
      have hci := hc0 i _ (List.getElem?_eq_getElem hlt) 0 _ rfl
      have hcj := hc1 i _ (List.getElem?_eq_getElem hlty) 0 _ rfl
      have hgx := d24_get hlt
      have hgy := d24_get hlty
      have hbx := (d24_bd x).get hlt
      have hby := (d24_bd y).get hlty
      generalize (d24 x)[i] = dx at hci hgx hbx
      generalize (d24 y)[i] = dy at hcj hgy hby
      have hci : w.cell? ⟨b0, o0 + i * 1, none⟩ = some (.int .i64 (dx : Int)) := hci
      have hcj : w.cell? ⟨b1, o1 + i * 1, none⟩ = some (.int .i64 (dy : Int)) := hcj
      have htop : x / 16777216 ^ (i + 1) = y / 16777216 ^ (i + 1) := cmp_top (n := (d24 x).length) (fun j hj => by
        by_cases hjn : j < (d24 x).length
        · exact hall j (by omega) hjn
        · rw [d24_beyond (by omega), d24_beyond (by omega)]) (by decide) hxl hyl
      (repeat (with_reducible first | apply WP_seq | apply WP_block | apply thenQ_n | apply WP_skip))
      refine WP_draw mixed (by kernel_rfl) (fun w' => Hp _ _ w' _) hp.drew ?_
      have hp := hp.drew
      (apply wdp; exact rfl; (intro w hp; exact pv_move); exact fS rfl)
      (apply wdp; exact rfl; (intro w hp; exact pv_move); exact fI rfl)
      (apply wdp; exact rfl; (intro w hp; exact pf_index rfl rfl rfl hs0 hlt); exact fP rfl)
      (apply wdp; exact rfl; (intro w hp; exact pf_load rfl rfl (hp.old0 hci)); exact fI rfl)
      (apply wdp; exact rfl; (intro w hp; exact pv_move); exact fS rfl)
      (apply wdp; exact rfl; (intro w hp; exact pv_move); exact fI rfl)
      (apply wdp; exact rfl; (intro w hp; exact pf_index rfl rfl rfl hs1 hlty); exact fP rfl)
      (apply wdp; exact rfl; (intro w hp; exact pf_load rfl rfl (hp.old0 hcj)); exact fI rfl)
      (repeat (first | ((apply wdp; exact rfl); (intro w hp; intros; ((apply pv_neq; (first | exact rfl | exact ev_sel rfl (by assumption))) <;> exact rfl)); (intros; exact fB rfl)) | (apply wdpF; exact rfl; exact rfl; exact rfl; exact rfl) | (apply wdpU; exact rfl; exact rfl; exact rfl)))
      refine wpd_nil ?_
      refine WP_cond_nd rfl (fun h3 => ?_) (fun h3 => ?_)
      · (repeat with_reducible apply WP_seq)
        refine WP_draw mixed (by kernel_rfl) (fun w' => Hp _ _ w' _) hp.drew ?_
        have hp := hp.drew
        (apply wdp; exact rfl; (intro w hp; exact pv_move); exact fS rfl)
        (apply wdp; exact rfl; (intro w hp; exact pv_move); exact fI rfl)
        (apply wdp; exact rfl; (intro w hp; exact pf_index rfl rfl rfl hs0 hlt); exact fP rfl)
        (apply wdp; exact rfl; (intro w hp; exact pf_load rfl rfl (hp.old0 hci)); exact fI rfl)
        (apply wdp; exact rfl; (intro w hp; exact pv_move); exact fS rfl)
        (apply wdp; exact rfl; (intro w hp; exact pv_move); exact fI rfl)
        (apply wdp; exact rfl; (intro w hp; exact pf_index rfl rfl rfl hs1 hlty); exact fP rfl)
        (apply wdp; exact rfl; (intro w hp; exact pf_load rfl rfl (hp.old0 hcj)); exact fI rfl)
        (apply wdp; exact rfl; (intro w hp; exact pv_sub rfl rfl); exact int_eq (i64_in (by omega) (by omega)))
        (repeat (first | ((apply wdp; exact rfl); (intro w hp; intros; apply pv_assign); (intros; exact fI rfl)) | (apply wdpF; exact rfl; exact rfl; exact rfl; exact rfl) | (apply wdpU; exact rfl; exact rfl; exact rfl)))
        refine wpd_nil ?_
        (repeat (with_reducible first | apply thenQ_n | apply thenQ_ret | apply inBlk_ret | apply WP_ret))
        refine ret_tmp rfl rfl ⟨_, rfl, _, rfl, ?_, ?_, hp.keeps⟩
        all_goals
          rcases Nat.lt_or_ge dx dy with hl | hl
          · have := lt_of_digit (b := 16777216) (x := x) (y := y) (i := i) (by decide) htop (by rw [← hgx, ← hgy]; exact hl)
            omega
          · have := lt_of_digit (b := 16777216) (x := y) (y := x) (i := i) (by decide) htop.symm (by rw [← hgx, ← hgy]; omega)
            omega
      · (repeat (first | (with_reducible first | apply WP_region | apply thenQ_n | apply inBlk_n | apply WP_skip) | (apply wlp; apply pv_move; exact fI rfl)))
        (apply wlp; exact pv_sub rfl rfl; exact int_eq (i64_in (by omega) (by omega)))
        (repeat (first | (with_reducible first | apply wpl_nil | apply thenQ_n) | (apply wlp; apply pv_assign; exact fI rfl)))
        refine ⟨i, put_self (Same.eq (by repeat (first | exact Same.hav | exact Same.refl | refine Same.put rfl ?_ | refine Same.havs rfl ?_))) rfl, ⟨by omega, fun j h4 h5 => ?_, hp⟩, by omega⟩
        by_cases hj : j = i
        · subst hj
          rw [← hgx, ← hgy]
          omega
        · exact hall j (by omega) h5
    · obtain rfl : k = 0 := by omega
      have hxy : x = y := cmp_eq (by decide) hxl hyl (fun j hj => hall j (Nat.zero_le _) hj)
      (repeat (first | (with_reducible first | apply WP_seq | apply WP_region | apply wpl_nil | apply thenQ_n | apply thenQ_exit | apply WP_ret | apply WP_exit) | ((with_reducible apply inBlk_same); exact rfl) | (apply wlp; apply pv_assign; exact fI rfl)))
      exact ret_tmp rfl rfl ⟨_, rfl, 0, rfl, by omega, by omega, hp.keeps⟩

theorem c98 (x y : Nat) (s s2 : Option Addr) (c c2 : Nat) (w : World) (hx : SlAt w 1 eD s (d24 x)) (hy : SlAt w 1 eD s2 (d24 y)) (hlx : (d24 x).length ≤ 100000) (hly : (d24 y).length ≤ 100000) (hy0 : 0 < y) (hq : x / y < 16777216) :
    Ret Tryz.prog 62 [.slice s (d24 x).length c, .slice s2 (d24 y).length c2] w (fun v w' => v = .int .i64 ((x / y : Nat) : Int) ∧ Keeps [] w w') := by
  refine Ret.of_WP Tryz.func62 rfl Tryz.ntmps62 rfl ?_
  have hp := Hp.start (M := []) (w := w)
  (repeat (first | (with_reducible first | apply WP_seq | apply WP_block | apply WP_region | apply wpl_nil | apply thenQ_n) | (apply wlp; apply pv_assign; exact fI rfl)))
  refine WP_loop2 [5, 6, 7, 8, 9, 10, 11, 12, 13, 14, 15, 16, 17, 18, 19, 20, 21, 22, 23, 24] (fun (lo hi : Nat) F => (F.put 5 (.int .i64 (lo : Int))).put 6 (.int .i64 (hi : Int))) (fun lo hi w' => lo ≤ x / y ∧ x / y ≤ hi ∧ hi ≤ 16777215 ∧ Hp w [] w' []) (fun lo hi => hi - lo) 0 16777215 (put_self (put_self (Same.eq .refl) rfl) rfl) ⟨Nat.zero_le _, by omega, by omega, hp⟩ ?_
  clear hp
  rintro u lo hi w1 ⟨hlo, hhi, hb, hp⟩
  (repeat (first | (with_reducible first | apply WP_seq | apply WP_region | apply wpl_nil | apply thenQ_n) | (apply wlp; ((first | apply pv_move | apply pv_lss) <;> exact rfl); (first | exact fI rfl | exact fB rfl))))
  refine WP_cond_d rfl (fun h => ?_) (fun h => ?_)
  · obtain ⟨m, hm⟩ : ∃ m, m = (lo + hi + 1) / 2 := ⟨_, rfl⟩
    have hlt := d24_lenT (x := y) (d := m) (by omega)
    (repeat (first | (with_reducible first | apply WP_seq | apply WP_block | apply WP_region | apply thenQ_n | apply WP_skip) | (apply wlp; apply pv_move; exact fI rfl)))
    (apply wlp; (exact pv_add rfl rfl); exact int_eq (b := ((lo + hi : Nat) : Int)) (by rw [i64_in (by omega) (by omega)]; omega))
    (apply wlp; (exact pv_add rfl rfl); exact int_eq (b := ((lo + hi + 1 : Nat) : Int)) (by rw [i64_in (by omega) (by omega)]; omega))
    (apply wlp; exact pn_quoI (b := 2) rfl rfl (by decide) (by omega); exact int_eq (b := (m : Int)) (by rw [hm]))
    (repeat (first | (with_reducible first | apply WP_seq | apply WP_region | apply wpl_nil | apply thenQ_n) | (apply wlp; (first | apply pv_move | apply pv_assign); (first | exact fI rfl | exact fS rfl))))
    (apply wls; exact st_call rfl ent64 rfl (c99 y m s2 c2 _ (hy.keep0 hp.keeps) hly (by omega)); rintro _ w2 ⟨s3, c3, rfl, _, hs3, hk⟩; have hp := hp.call hk)
    (repeat (apply wlp; apply pv_move; exact fS rfl))
    (apply wls; exact st_call rfl ent61 rfl (c97 (y * m) x s3 s c3 c _ hs3 (hx.keep0 hp.keeps) (by omega) (by omega)); rintro _ w3 ⟨r, rfl, _, hr, hk⟩; have hp := hp.call hk)
    (repeat (first | (with_reducible first | apply wpl_nil | apply thenQ_n) | (apply wlp; (apply pv_leq <;> exact rfl); exact fB rfl)))
    refine WP_cond_d rfl (fun h2 => ?_) (fun h2 => ?_)
    · have : m ≤ x / y := (Nat.le_div_iff_mul_le hy0).2 (by rw [Nat.mul_comm]; exact hr.1 h2)
      (repeat (first | (with_reducible first | apply WP_region | apply wpl_nil | apply thenQ_n | apply inBlk_n) | (apply wlp; (first | apply pv_move | apply pv_assign); exact fI rfl)))
      exact ⟨m, hi, put_self (put_self (Same.eq (by repeat (first | exact Same.hav | exact Same.refl | refine Same.put rfl ?_ | refine Same.havs rfl ?_))) rfl) rfl, ⟨by omega, by omega, by omega, hp⟩, by omega⟩
    · have : x / y < m := (Nat.div_lt_iff_lt_mul hy0).2 (by
        rw [Nat.mul_comm]
        have : ¬ y * m ≤ x := fun h => h2 (hr.2 h)
        omega)
      (repeat (first | with_reducible apply WP_region | (apply wlp; apply pv_move; exact fI rfl)))
      (apply wlp; (exact pv_sub rfl rfl); exact int_eq (b := ((m - 1 : Nat) : Int)) (by rw [i64_in (by omega) (by omega)]; omega))
      (repeat (first | (with_reducible first | apply wpl_nil | apply thenQ_n | apply inBlk_n) | (apply wlp; apply pv_assign; exact fI rfl)))
      exact ⟨lo, m - 1, put_self (put_self (Same.eq (by repeat (first | exact Same.hav | exact Same.refl | refine Same.put rfl ?_ | refine Same.havs rfl ?_))) rfl) rfl, ⟨by omega, by omega, by omega, hp⟩, by omega⟩
  · obtain rfl : lo = x / y := by omega
    (repeat (first | (with_reducible first | apply WP_seq | apply WP_region | apply wpl_nil | apply thenQ_n | apply thenQ_exit | apply WP_ret | apply WP_exit) | ((with_reducible apply inBlk_same); exact rfl) | (apply wlp; (first | apply pv_move | apply pv_assign); exact fI rfl)))
    exact ret_tmp rfl rfl ⟨_, rfl, rfl, hp.keeps⟩
end Go.Proofs.YtfjbioghpgmkiaaGreatDoor
/- sortesref01: Quo, Gcd, Right; conditions: the numbers are short, no division by zero. -/
namespace Go.Proofs.YtfjbioghpgmkiaaGreatDoor
open Go.Eng Go.Dig

/-! plain: one digit of a quotient -/
theorem quo_next {B x y i dx : Nat} (hy : 0 < y) (hd : dx = x / B ^ i % B) (hB : 0 < B) :
    x / B ^ i / y = (dx + B * (x / B ^ (i + 1) % y)) / y + B * (x / B ^ (i + 1) / y) ∧ x / B ^ i % y = (dx + B * (x / B ^ (i + 1) % y)) % y ∧ (dx + B * (x / B ^ (i + 1) % y)) / y < B := by
  have h1 := div_step B x i
  rw [← hd] at h1
  generalize x / B ^ (i + 1) = X at *
  rw [h1]
  have h2 := Nat.div_add_mod X y
  have hr := Nat.mod_lt X hy
  generalize X / y = q at *
  generalize X % y = r at *
  have h3 : B * X + dx = (dx + B * r) + y * (B * q) := by
    rw [← h2, Nat.mul_add, ← Nat.mul_assoc, ← Nat.mul_assoc, Nat.mul_comm B y]
    omega
  rw [h3]
  refine ⟨?_, ?_, ?_⟩
  · rw [Nat.add_mul_div_left _ _ hy]
  · rw [Nat.add_mul_mod_self_left]
  · refine (Nat.div_lt_iff_lt_mul hy).2 ?_
    have h4 : dx < B := by rw [hd]; exact Nat.mod_lt _ hB
    have h5 : B * (r + 1) ≤ B * y := Nat.mul_le_mul_left B hr
    rw [Nat.mul_add] at h5
    omega
theorem rep_set (k d : Nat) (T : List Nat) : (List.replicate (k + 1) 0 ++ T).set k d = List.replicate k 0 ++ (d :: T) := by
  rw [List.replicate_succ', List.append_assoc, List.set_append_right _ _ (by simp)]
  simp
theorem rep_succ (k : Nat) (T : List Nat) : List.replicate (k + 1) 0 ++ T = List.replicate k 0 ++ (0 :: T) := by
  rw [List.replicate_succ', List.append_assoc]
  rfl
theorem trim_push {R dx : Nat} (hd : dx < 16777216) : trimL (dx :: d24 R) = d24 (dx + 16777216 * R) := by
  rw [trim_d24 (.cons hd (d24_bd R))]
  show d24 (dx + 16777216 * val 16777216 (d24 R)) = _
  rw [d24_val]
theorem val_cons' (b d : Nat) (l : List Nat) : val b (d :: l) = d + b * val b l := rfl
theorem val_nil' (b : Nat) : val b [] = 0 := rfl
theorem d24_zero : d24 0 = [] := rfl
theorem sl_zero : Value.slice none (d24 0).length 0 = .slice none 0 0 := rfl

attribute [local irreducible] PV StepF wpl wpd WP Ret
attribute [local irreducible] Fit d24 val

theorem c92S (sx : ByteArray) (x y : Nat) (w : World) (hnx : NS sx x) (hx : Fit x) (hy : Fit y) (hy0 : 0 < y) : Ret Tryz.prog 28 [.string sx, .string (ofN y)] w (fun v w' => v = .tuple #[.string (ofN (x / y)), .string (ofN (x % y)), .bool true] ∧ Keeps [] w w') := by
  have hsy := ofN_size y
  have hny : (digs 256 y).length ≠ 0 := fun h => by
    have := (digs_eq_nil (b := 256) (by decide)).1 (List.eq_nil_of_length_eq_zero h)
    omega
  refine Ret.of_WP Tryz.func28 rfl Tryz.ntmps28 rfl ?_
  have hp := Hp.start (M := []) (w := w)
  (repeat (first | (with_reducible first | apply WP_seq | apply WP_region | apply wpl_nil | apply thenQ_n) | (apply wlp; (first | apply pv_move | apply pv_assign); (first | exact fB rfl | exact fT rfl))))
  (apply wls; exact st_call rfl ent57 rfl (c67N y _ hy); rintro _ w1 ⟨rfl, hk⟩; have hp := hp.call hk)
  (repeat (first | (with_reducible first | apply WP_seq | apply WP_region | apply wpl_nil | apply thenQ_n) | (apply wlp; ((first | apply pv_move | apply pv_assign | (apply pf_lens; exact rfl) | (apply pv_eql; (first | exact rfl | exact ev_sel rfl (by assumption)))) <;> exact rfl); (first | exact fI rfl | exact fB rfl | exact fT rfl))))
  refine WP_cond_d rfl (fun h => absurd h (by omega)) (fun _ => ?_)
  (repeat (first | (with_reducible first | apply WP_seq | apply WP_region | apply thenQ_n | apply WP_skip) | (apply wlp; apply pv_move; exact fT rfl)))
  (apply wls; exact st_call rfl ent58 rfl (c68S sx x 7 _ hnx (by decide) hx); rintro _ w2 ⟨⟨p, hpe, rfl⟩, hk⟩; have hp := hp.call hk)
  skip
  (apply wlp; exact pv_move; exact fU rfl)
  (repeat (first | (with_reducible first | apply WP_seq | apply WP_region | apply wpl_nil | apply thenQ_n) | (apply wlp; ((first | apply pv_move | apply pv_assign | apply pv_extract) <;> exact rfl); (first | exact fI rfl | exact fB rfl | exact fT rfl))))
  (apply wls; exact st_call rfl ent58 rfl (c68 y 7 _ (by decide) hy); rintro _ w3 ⟨⟨q, hqe, rfl⟩, hk⟩; have hp := hp.call hk)
  (apply wlp; exact pv_move; exact fU rfl)
  (apply wlp; (apply pv_extract <;> exact rfl); exact fI rfl)
  (apply wlp; (apply pv_extract <;> exact rfl); exact fB rfl)
  (apply wlp; apply pv_assign; exact fI rfl)
  (apply wlp; apply pv_assign; exact fB rfl)
  (repeat (with_reducible first | apply WP_seq | apply WP_region | apply wpl_nil | apply thenQ_n))
  (apply wlp; apply pv_move; exact fB rfl)
  (apply wlp; apply pv_move; exact fB rfl)
  (repeat (first | (with_reducible first | apply wpl_nil | apply thenQ_n) | ((first | apply wlp | (apply wlg; exact rfl; exact rfl)); (intros; (first | apply pv_move | exact pv_and rfl rfl rfl)); (intros; exact fB rfl))))
  refine WP_cond rfl (fun h => ?_) (fun h => ?_)
  · obtain ⟨rfl, rfl⟩ : p = true ∧ q = true := by
      revert h
      cases p <;> cases q <;> simp
    have hx7 := small7 (of_decide_eq_true hpe.symm) (Nat.le_refl _)
    have hy7 := small7 (of_decide_eq_true hqe.symm) (Nat.le_refl _)
    have hd1 : x / y ≤ x := Nat.div_le_self _ _
    have hd2 : x % y ≤ x := Nat.mod_le _ _
    simp only [if_true]
    (repeat with_reducible apply WP_seq)
    refine WP_draw mixed (by kernel_rfl) (fun w' => Hp _ _ w' _) hp.drew ?_
    have hp := hp.drew
    (apply wdp; exact rfl; (intro w hp; exact pv_move); exact fI rfl)
    (apply wdp; exact rfl; (intro w hp; exact pv_move); exact fI rfl)
    (apply wdp; exact rfl; (intro w hp; exact pn_quoI rfl rfl hy0 (by omega)); exact fI rfl)
    (apply wds; exact rfl; exact st_call rfl ent37 rfl (c40 _ _ (by omega)); rintro _ w4 ⟨rfl, hk⟩; have hp := hp.call hk; refine ⟨hp, ?_⟩)
    rw [Int.toNat_natCast]
    (apply wdp; exact rfl; (intro w hp; exact pv_move); exact fI rfl)
    (apply wdp; exact rfl; (intro w hp; exact pv_move); exact fI rfl)
    (apply wdp; exact rfl; (intro w hp; exact pn_remI rfl rfl hy0); exact fI rfl)
    (apply wds; exact rfl; exact st_call rfl ent37 rfl (c40 _ _ (by omega)); rintro _ w5 ⟨rfl, hk⟩; have hp := hp.call hk; refine ⟨hp, ?_⟩)
    rw [Int.toNat_natCast]
    (repeat (first | ((apply wdp; exact rfl); (intro w hp; intros; apply pv_assign); (intros; (first | exact fB rfl | exact fT rfl))) | (apply wdpF; exact rfl; exact rfl; exact rfl; exact rfl) | (apply wdpU; exact rfl; exact rfl; exact rfl)))
    refine wpd_nil ?_
    (repeat (with_reducible first | apply thenQ_n | apply thenQ_ret | apply WP_ret))
    exact ret_tmp3 rfl rfl rfl rfl ⟨_, rfl, rfl, hp.keeps⟩
  · have hlx := hx.d24
    have hly := hy.d24
    clear h hpe hqe
    (repeat (first | (with_reducible first | apply WP_seq | apply WP_region | apply thenQ_n | apply WP_skip) | (apply wlp; apply pv_move; exact fT rfl)))
    (apply wls; exact st_call rfl ent59 rfl (c69S sx x _ hnx hx); rintro _ w4 ⟨su, cu, rfl, hvu, hpo⟩; have hsu := ownL_At hpo 0 rfl hvu (fun _ => rfl); have hp := hp.call hpo.keeps; clear hpo)
    (repeat (first | (with_reducible first | apply WP_seq | apply WP_region | apply wpl_nil | apply thenQ_n) | (apply wlp; (first | apply pv_move | apply pv_assign); (first | exact fS rfl | exact fT rfl))))
    (apply wls; exact st_call rfl ent59 rfl (c69 y _ hy); rintro _ w5 ⟨sv, cv, rfl, hvv, hpo⟩; have hsv := ownL_At hpo 0 rfl hvv (fun _ => rfl); have hsu := hsu.keep0 hpo.keeps; have hp := hp.call hpo.keeps; clear hpo)
    have hk5 := hp.keeps
    clear hp
    have hp := (Hp.start (M := []) (w := w5)).nilL eD 3 1
    (repeat (first | (with_reducible first | apply WP_seq | apply WP_region | apply wpl_nil | apply thenQ_n) | (apply wlp; ((first | apply pv_move | apply pv_assign | (apply pf_len; exact rfl)) <;> exact rfl); (first | exact fI rfl | exact fS rfl))))
    (apply wls; exact sf_make eD 0 hp rfl rfl rfl rfl rfl rfl rfl (by omega) rfl; rintro _ w6 ⟨g, rfl, hv, hp⟩)
    (repeat (first | (with_reducible first | apply WP_seq | apply WP_region | apply wpl_nil | apply thenQ_n) | (apply wlp; ((first | apply pv_move | apply pv_assign | (apply pf_len; exact rfl)) <;> exact rfl); (first | exact fI rfl | exact fS rfl))))
    (apply wlp; exact pv_sub rfl rfl; exact int_eq (i64_in (by omega) (by omega)))
    (repeat (first | (with_reducible first | apply WP_block | apply wpl_nil | apply thenQ_n) | (apply wlp; apply pv_assign; exact fI rfl)))
    refine WP_loop5 [14, 15, 53, 54, 55, 56, 57, 58, 59, 60, 61, 62, 63, 64, 65, 66, 67, 68, 69, 70, 71, 72, 73, 74, 75, 76, 77, 78, 79, 80, 81, 82] (fun (k : Nat) (T z : List Nat) (sr : Option Addr) (cr : Nat) F => (F.put 15 (.int .i64 ((k : Int) - 1))).put 14 (.slice sr (d24 (x / 16777216 ^ k % y)).length cr))
      (fun k T z sr cr w' => k ≤ (d24 x).length ∧ k + T.length = (d24 x).length ∧ Bd 16777216 T ∧ val 16777216 T = x / 16777216 ^ k / y ∧ d24 (x / 16777216 ^ k % y) <+: z ∧ SVL sr cr z ∧ SVL (some ⟨g, 0, none⟩) (d24 x).length (List.replicate k 0 ++ T) ∧ Hp w5 [] w' [ownL eD 3 1 (some ⟨g, 0, none⟩) (d24 x).length (List.replicate k 0 ++ T), ownL eD 3 1 sr cr z])
      (fun k _ _ _ _ => k) (d24 x).length [] [] none 0 ?_ ?_ ?_
    · refine put_self (put_self (Same.eq .refl) rfl) ?_
      rw [Nat.div_eq_of_lt (d24_lt (Nat.le_refl _)), Nat.zero_mod, sl_zero]
      rfl
    · have e0 : x / 16777216 ^ (d24 x).length = 0 := Nat.div_eq_of_lt (d24_lt (Nat.le_refl _))
      rw [e0, Nat.zero_mod, Nat.zero_div, List.append_nil]
      exact ⟨Nat.le_refl _, by simp, .nil, val_nil' _, d24_zero ▸ List.nil_prefix, SVL.nil, hv, hp⟩
    clear hp hv
    rintro u k T z sr cr w7 ⟨hk, hkT, hTb, hTv, hpre, hvz, hvq, hp⟩
    (repeat (first | (with_reducible first | apply WP_seq | apply WP_region | apply wpl_nil | apply thenQ_n) | (apply wlp; ((first | apply pv_move | apply pv_geq) <;> exact rfl); (first | exact fI rfl | exact fB rfl))))
    refine WP_cond_d rfl (fun h2 => ?_) (fun h2 => ?_)
    · obtain ⟨i, rfl⟩ : ∃ i, k = i + 1 := ⟨k - 1, by omega⟩
      rw [show (((i + 1 : Nat) : Int) - 1) = (i : Int) from by omega]
      have hlt : i < (d24 x).length := by omega
      obtain ⟨b0, o0, hs0, hc0⟩ := hsu.base (by omega)
      have hci := hc0 i _ (List.getElem?_eq_getElem hlt) 0 _ rfl
      have hbd := (d24_bd x).get hlt
      have hgx := d24_get hlt
      generalize (d24 x)[i] = dx at hci hbd hgx
      have hci : w5.cell? ⟨b0, o0 + i * 1, none⟩ = some (.int .i64 (dx : Int)) := hci
      obtain ⟨hq1, hq2, hq3⟩ := quo_next (B := 16777216) (x := x) (y := y) (i := i) hy0 hgx (by decide)
      have hrl : (d24 (x / 16777216 ^ (i + 1) % y)).length ≤ 4000 := (Nat.le_trans (hy.le (Nat.le_of_lt (Nat.mod_lt _ hy0))).d24s (by decide) : _ ≤ 4000)
      have htp := trim_push (R := x / 16777216 ^ (i + 1) % y) hbd
      generalize x / 16777216 ^ (i + 1) % y = R at *
      obtain ⟨R1, hR1⟩ : ∃ R1, R1 = dx + 16777216 * R := ⟨_, rfl⟩
      rw [← hR1] at hq1 hq2 hq3 htp
      have hl1 : (d24 R1).length ≤ (d24 R).length + 1 := by
        have h9 := (trimL_pre (dx :: d24 R)).length_le
        rw [List.length_cons, htp] at h9
        exact h9
      generalize d24 R = DR at *
      (repeat (first | (with_reducible first | apply WP_seq | apply WP_block | apply WP_region | apply thenQ_n | apply WP_skip) | (apply wlp; ((first | apply pv_move | (apply pf_load; exact rfl) | (apply pf_index; exact rfl)) <;> (first | exact rfl | assumption | exact hp.old0 (by assumption))); (first | exact fI rfl | exact fP rfl | exact fS rfl))))
      (apply wls; exact sf_slice hp rfl rfl rfl rfl rfl rfl rfl; rintro _ w8 ⟨nb, rfl, hp⟩)
      have hp : Hp w5 [] w8 [ownL eD 3 1 (some ⟨nb, 0, none⟩) 1 [dx], ownL eD 3 1 (some ⟨g, 0, none⟩) (d24 x).length (List.replicate (i + 1) 0 ++ T), ownL eD 3 1 sr cr z] := hp.rowOf 0 1 1 rfl rfl
      have hv1 : SVL (some ⟨nb, 0, none⟩) 1 [dx] := .inr ⟨nb, 1, rfl, Nat.le_refl _, by unfold maxLen; omega⟩
      (repeat (apply wlp; apply pv_move; exact fS rfl))
      (apply wls; exact sf_app eD [dx] (DR) hp 0 rfl rfl rfl rfl rfl rfl (fun _ => rfl) rfl rfl rfl hv1 ((ownL_At hp 2 rfl hvz (fun _ => rfl)).pre hpre) (fun _ => rfl) (by simp; omega); rintro _ w9 ⟨s1, c1, rfl, hv2, hp⟩)
      have hp : Hp w5 [] w9 [ownL eD 3 1 s1 c1 (dx :: DR), ownL eD 3 1 (some ⟨g, 0, none⟩) (d24 x).length (List.replicate (i + 1) 0 ++ T), ownL eD 3 1 sr cr z] := hp
      have hp := hp.picks [0, 1] [ownL eD 3 1 s1 c1 (dx :: DR), ownL eD 3 1 (some ⟨g, 0, none⟩) (d24 x).length (List.replicate (i + 1) 0 ++ T)] rfl rfl
      have h89 := c89 (dx :: DR) s1 c1 w9 hv2.cap (by rw [List.length_cons]; omega) (ownL_At hp 0 rfl hv2 (fun _ => rfl))
      rw [htp] at h89
      (apply wls; exact st_call rfl ent60 rfl h89; rintro _ w10 ⟨rfl, hk⟩; have hp := hp.call hk)
      have hpr1 : d24 R1 <+: (dx :: DR) := htp ▸ trimL_pre _
      (repeat (first | (with_reducible first | apply WP_seq | apply WP_region | apply wpl_nil | apply thenQ_n) | (apply wlp; (first | apply pv_move | apply pv_assign); exact fS rfl)))
      (apply wls; exact st_call rfl ent61 rfl (c97 R1 y s1 sv c1 cv _ ((ownL_At hp 0 rfl hv2 (fun _ => rfl)).pre hpr1) (hsv.keep0 hp.keeps) (by omega) (by omega)); rintro _ w11 ⟨r, rfl, hr, _, hk⟩; have hp := hp.call hk)
      (repeat (first | (with_reducible first | apply wpl_nil | apply thenQ_n) | (apply wlp; (apply pv_geq <;> exact rfl); exact fB rfl)))
      refine WP_cond_d rfl (fun h3 => ?_) (fun h3 => ?_)
      · have hle : y ≤ R1 := hr.1 h3
        obtain ⟨d, hd⟩ : ∃ d, d = R1 / y := ⟨_, rfl⟩
        have hiq : i < (List.replicate (i + 1) 0 ++ T).length := by simp; omega
        have hyd : y * d ≤ R1 := by rw [hd]; exact Nat.mul_div_le R1 y
        have hmod : R1 - y * d = R1 % y := by
          have := Nat.div_add_mod R1 y
          rw [← hd] at this
          omega
        have hll : (d24 (y * d)).length ≤ 100000 := by
          have := d24_lenT (x := y) (d := d) (by omega)
          have := hy.d24s
          omega
        (repeat (first | (with_reducible first | apply WP_seq | apply WP_region) | (apply wlp; apply pv_move; (first | exact fI rfl | exact fS rfl))))
        (apply wls; exact st_call rfl ent62 rfl (c98 R1 y s1 sv c1 cv _ ((ownL_At hp 0 rfl hv2 (fun _ => rfl)).pre hpr1) (hsv.keep0 hp.keeps) (by omega) (by omega) hy0 hq3); rintro _ w12 ⟨rfl, hk⟩; have hp := hp.call hk)
        rw [← hd]
        (apply wlp; exact pf_index rfl rfl rfl rfl hlt; exact fP rfl)
        (apply wls0; exact st_setL eD _ i d hp 1 rfl hvq hiq rfl rfl (fun _ => rfl) rfl rfl (sizeTy_ok rfl); rintro _ w13 ⟨rfl, hp⟩)
        have hvq2 : SVL (some ⟨g, 0, none⟩) (d24 x).length (List.replicate i 0 ++ (d :: T)) := by
          have e : (List.replicate i 0 ++ (d :: T)).length = (d24 x).length := by simp; omega
          unfold SVL
          rw [e]
          exact .inr ⟨g, _, rfl, Nat.le_refl _, by unfold maxLen; omega⟩
        have hp : Hp w5 [] w13 [ownL eD 3 1 s1 c1 (dx :: DR), ownL eD 3 1 (some ⟨g, 0, none⟩) (d24 x).length (List.replicate i 0 ++ (d :: T))] := by
          rw [← rep_set]
          exact hp
        have hcd : w13.cell? ⟨g, 0 + i * 1, none⟩ = some (.int .i64 (d : Int)) := by
          have hsq := ownL_At hp 1 rfl hvq2 (fun _ => rfl)
          obtain ⟨b3, o3, e3, hc3⟩ := hsq.base (by simp; omega)
          cases e3
          exact hc3 i d (by simp) 0 _ rfl
        (repeat (first | (with_reducible first | apply WP_region | apply wpl_nil | apply thenQ_n) | (apply wlp; ((first | apply pv_move | (apply pf_load; exact rfl) | (apply pf_index; exact rfl)) <;> (first | exact rfl | assumption)); (first | exact fI rfl | exact fP rfl | exact fS rfl))))
        (apply wls; exact st_call rfl ent64 rfl (c99 y d sv cv _ (hsv.keep0 hp.keeps) hly (by omega)); rintro _ w14 ⟨s3, c3, rfl, _, hs3, hk⟩; have hp := hp.call hk)
        (apply wls; exact st_call rfl ent63 rfl (c73o R1 (y * d) s1 s3 c1 c3 _ ((ownL_At hp 0 rfl hv2 (fun _ => rfl)).pre hpr1) hs3 (by omega) hll hyd); rintro _ w15 ⟨s4, c4, z4, rfl, hpr4, hv4, hpo⟩; have hp := hp.join hpo; clear hpo)
        rw [hmod]
        rw [hmod] at hpr4
        rw [← hq2]
        rw [← hq2] at hpr4
        (repeat (first | (with_reducible first | apply WP_region | apply wpl_nil | apply thenQ_n | apply inBlk_n) | (apply wlp; (first | apply pv_move | apply pv_assign); (first | exact fI rfl | exact fS rfl))))
        (apply wlp; exact pv_sub rfl rfl; exact int_eq (i64_in (by omega) (by omega)))
        (repeat (first | (with_reducible first | apply wpl_nil | apply thenQ_n) | (apply wlp; apply pv_assign; exact fI rfl)))
        refine ⟨i, d :: T, z4, s4, c4, put_self (put_self (Same.eq (by repeat (first | exact Same.hav | exact Same.refl | refine Same.put rfl ?_ | refine Same.havs rfl ?_))) rfl) rfl, ⟨by omega, by simp; omega, .cons (by omega) hTb, ?_, hpr4, hv4, hvq2, hp.picks [2, 0] _ rfl rfl⟩, by omega⟩
        rw [val_cons', hTv, hd, hq1]
      · have hlt1 : R1 < y := by
          rcases Nat.lt_or_ge R1 y with h | h
          · exact h
          · exact absurd (hr.2 h) h3
        have e1 : R1 / y = 0 := Nat.div_eq_of_lt hlt1
        have e2 : R1 % y = R1 := Nat.mod_eq_of_lt hlt1
        rw [e1, Nat.zero_add] at hq1
        rw [e2] at hq2
        rw [← hq2] at hpr1
        rw [← hq2]
        (repeat (first | (with_reducible first | apply WP_region | apply thenQ_n | apply inBlk_n | apply WP_skip) | (apply wlp; apply pv_move; exact fI rfl)))
        (apply wlp; exact pv_sub rfl rfl; exact int_eq (i64_in (by omega) (by omega)))
        (repeat (first | (with_reducible first | apply wpl_nil | apply thenQ_n) | (apply wlp; apply pv_assign; exact fI rfl)))
        rw [rep_succ] at hvq hp
        refine ⟨i, 0 :: T, _, s1, c1, put_self (put_self (Same.eq (by repeat (first | exact Same.hav | exact Same.refl | refine Same.put rfl ?_ | refine Same.havs rfl ?_))) rfl) rfl, ⟨by omega, by simp; omega, .cons (by omega) hTb, ?_, hpr1, hv2, hvq, hp.picks [1, 0] _ rfl rfl⟩, by omega⟩
        rw [val_cons', hTv, hq1, Nat.zero_add]
    · obtain rfl : k = 0 := by omega
      rw [Nat.pow_zero, Nat.div_one] at hTv hpre
      rw [Nat.pow_zero, Nat.div_one]
      have hrl : (d24 (x % y)).length ≤ 100000 := hx.mod.d24
      have hp : Hp w5 [] w7 [ownL eD 3 1 (some ⟨g, 0, none⟩) (d24 x).length T, ownL eD 3 1 sr cr z] := hp
      have hvq : SVL (some ⟨g, 0, none⟩) (d24 x).length T := hvq
      have hTl : T.length = (d24 x).length := by omega
      have h70 := fun w' h => c70 T (some ⟨g, 0, none⟩) (d24 x).length w' h hTb (by omega)
      rw [hTl, hTv] at h70
      have h71 := fun w' h => c70 (d24 (x % y)) sr cr w' h (d24_bd _) hrl
      rw [d24_val] at h71
      (repeat (first | (with_reducible first | apply WP_seq | apply WP_region | apply thenQ_n | apply thenQ_exit | apply WP_exit) | ((with_reducible apply inBlk_same); exact rfl) | (apply wlp; apply pv_move; exact fS rfl)))
      (apply wls; exact st_call rfl ent65 rfl (h70 _ (ownL_At hp 0 rfl hvq (fun _ => rfl))); rintro _ w8 ⟨rfl, hk⟩; have hp := hp.call hk)
      (repeat (apply wlp; apply pv_move; exact fS rfl))
      (apply wls; exact st_call rfl ent65 rfl (h71 _ ((ownL_At hp 1 rfl hvz (fun _ => rfl)).pre hpre)); rintro _ w9 ⟨rfl, hk⟩; have hp := hp.call hk)
      (repeat (first | (with_reducible first | apply wpl_nil | apply thenQ_n | apply WP_ret) | (apply wlp; apply pv_assign; (first | exact fB rfl | exact fT rfl))))
      exact ret_tmp3 rfl rfl rfl rfl ⟨_, rfl, rfl, hk5.trans hp.keeps (by simp)⟩
theorem c92 (x y : Nat) (w : World) (hx : Fit x) (hy : Fit y) (hy0 : 0 < y) : Ret Tryz.prog 28 [.string (ofN x), .string (ofN y)] w (fun v w' => v = .tuple #[.string (ofN (x / y)), .string (ofN (x % y)), .bool true] ∧ Keeps [] w w') := c92S _ x y w (NS.self hx) hx hy hy0
end Go.Proofs.YtfjbioghpgmkiaaGreatDoor
/- places: identity, factorials, isOrder; conditions: small numbers, the lists lie in memory. -/
namespace Go.Proofs.YtfjbioghpgmkiaaGreatDoor
open Go.Eng Go.Dig

def idn (n : Nat) : List Int := (List.range n).map fun (i : Nat) => (i : Int)
theorem idn_len (n : Nat) : (idn n).length = n := by simp [idn]
theorem idn_succ (n : Nat) : idn (n + 1) = idn n ++ [(n : Int)] := by simp [idn, List.range_succ]
theorem idn_step {n i : Nat} (h : i < n) : (idn i ++ List.replicate (n - i) (0 : Int)).set i (i : Int) = idn (i + 1) ++ List.replicate (n - (i + 1)) 0 := by
  rw [List.set_append_right _ _ (by rw [idn_len]; omega), idn_len, idn_succ, List.append_assoc]
  congr 1
  rw [show n - i = (n - (i + 1)) + 1 from by omega, List.replicate_succ, Nat.sub_self]
  rfl
def wts (n : Nat) : List ByteArray := (List.range (n + 1)).map fun i => ofN (fact i)
theorem fact_succ (n : Nat) : fact (n + 1) = (n + 1) * fact n := rfl
theorem wts_zero : wts 0 = [ofN 1] := rfl
theorem wts_len (n : Nat) : (wts n).length = n + 1 := by simp [wts]
theorem wts_succ (n : Nat) : wts (n + 1) = wts n ++ [ofN (fact (n + 1))] := by simp [wts, List.range_succ]
theorem wts_get {n i : Nat} (h : i ≤ n) : (wts n)[i]? = some (ofN (fact i)) := by
  unfold wts
  rw [List.getElem?_map, List.getElem?_range (by omega)]
  rfl
theorem fact_le : ∀ {n m : Nat}, n ≤ m → fact n ≤ fact m
  | n, 0, h => by
    obtain rfl : n = 0 := by omega
    exact Nat.le_refl _
  | n, m + 1, h => by
    rcases Nat.lt_or_ge m n with h1 | h1
    · obtain rfl : n = m + 1 := by omega
      exact Nat.le_refl _
    · have h2 := fact_le h1
      have h3 : 1 * fact m ≤ (m + 1) * fact m := Nat.mul_le_mul_right _ (by omega)
      show fact n ≤ (m + 1) * fact m
      omega
theorem fact_fit {n : Nat} (h : n ≤ 41) : Fit (fact n) := Fit.of (k := 200) (Nat.lt_of_le_of_lt (fact_le h) (by decide)) (by decide)

/-- in the list of the numbers below n, each once -/
def isO (n : Nat) (l : List Int) : Bool := decide (l.length = n) && (l.all (fun x => decide (0 ≤ x) && decide (x < n)) && decide l.Nodup)
/-- the numbers that were seen -/
def seenL (n : Nat) (l : List Int) : List Bool := (List.range n).map fun (i : Nat) => decide ((i : Int) ∈ l)
theorem seenL_nil (n : Nat) : seenL n [] = List.replicate n false := by
  unfold seenL
  simp only [List.not_mem_nil, decide_false]
  rw [List.map_const', List.length_range]
theorem seenL_len (n : Nat) (l : List Int) : (seenL n l).length = n := by simp [seenL]
theorem seenL_get {n i : Nat} (l : List Int) (h : i < n) : (seenL n l)[i]? = some (decide ((i : Int) ∈ l)) := by
  unfold seenL
  rw [List.getElem?_map, List.getElem?_range h]
  rfl
theorem seenL_set {n i : Nat} (l : List Int) (h : i < n) : (seenL n l).set i true = seenL n (l ++ [(i : Int)]) := by
  apply List.ext_getElem?
  intro j
  rw [List.getElem?_set, seenL_len]
  by_cases hij : i = j
  · subst hij
    rw [if_pos rfl, if_pos h, seenL_get _ h]
    simp
  · rw [if_neg hij]
    by_cases hj : j < n
    · rw [seenL_get _ hj, seenL_get _ hj]
      congr 2
      simp
      omega
    · rw [List.getElem?_eq_none (by rw [seenL_len]; omega), List.getElem?_eq_none (by rw [seenL_len]; omega)]
theorem nodup_snoc {l : List Int} {x : Int} : (l ++ [x]).Nodup ↔ l.Nodup ∧ x ∉ l := by
  rw [List.nodup_append]
  constructor
  · rintro ⟨h1, _, h2⟩
    exact ⟨h1, fun hx => h2 x hx x (by simp) rfl⟩
  · rintro ⟨h1, h2⟩
    refine ⟨h1, by simp, fun a ha b hb => ?_⟩
    rintro rfl
    have : a = x := by simpa using hb
    subst this
    exact h2 ha
def eBo (x : Bool) : List Value := [.bool x]

attribute [local irreducible] PV StepF wpl wpd WP Ret
attribute [local irreducible] Fit fact idn wts seenL

theorem p40 (n : Nat) (w : World) (hn : n ≤ 1000) : Ret Tryz.prog 40 [.int .i64 (n : Int)] w (fun v w' => ∃ b, v = .slice (some ⟨b, 0, none⟩) n n ∧ SVL (some ⟨b, 0, none⟩) n (idn n) ∧ Hp w [] w' [ownL eI 3 1 (some ⟨b, 0, none⟩) n (idn n)]) := by
  refine Ret.of_WP Tryz.func40 rfl Tryz.ntmps40 rfl ?_
  have hp := Hp.start (M := []) (w := w)
  (repeat (first | (with_reducible first | apply WP_seq | apply WP_region | apply wpl_nil | apply thenQ_n) | (apply wlp; (first | apply pv_move | apply pv_assign); (first | exact fI rfl | exact fS rfl))))
  (apply wls; exact sf_make eI 0 hp rfl rfl rfl rfl rfl rfl rfl (by omega) rfl; rintro _ w1 ⟨g, rfl, hv, hp⟩)
  (repeat (first | (with_reducible first | apply WP_seq | apply WP_block | apply WP_region | apply wpl_nil | apply thenQ_n) | (apply wlp; ((first | apply pv_move | apply pv_assign | (apply pf_len; exact rfl)) <;> exact rfl); (first | exact fI rfl | exact fS rfl))))
  refine WP_loop2 [4, 9, 10, 11, 12, 13, 14, 15, 16] (fun (i : Nat) (_z : List Int) F => F.put 9 (.int .i64 i)) (fun i z w' => i ≤ n ∧ z = idn i ++ List.replicate (n - i) 0 ∧ SVL (some ⟨g, 0, none⟩) n z ∧ Hp w [] w' [ownL eI 3 1 (some ⟨g, 0, none⟩) n z]) (fun i _ => n - i) 0 (List.replicate n 0) (put_self (Same.eq .refl) rfl) ⟨Nat.zero_le _, by unfold idn; simp, hv, hp⟩ ?_
  clear hv
  (repeat clear hp)
  rintro u i z w2 ⟨hi, hz, hv, hp⟩
  (repeat (first | (with_reducible first | apply WP_seq | apply WP_region | apply wpl_nil | apply thenQ_n) | (apply wlp; (apply pv_lss <;> exact rfl); exact fB rfl)))
  refine WP_cond_d rfl (fun h => ?_) (fun h => ?_)
  · have hlt : i < n := by omega
    have hiz : i < z.length := by rw [hz]; simp [idn_len]; omega
    (repeat (first | (with_reducible first | apply WP_seq | apply WP_block | apply WP_region | apply wpl_nil | apply thenQ_n | apply WP_skip) | (apply wlp; ((first | apply pv_move | apply pv_assign | (apply pf_index; exact rfl)) <;> (first | exact rfl | assumption)); (first | exact fI rfl | exact fP rfl | exact fS rfl))))
    (apply wls0; exact st_setL eI z i (i : Int) hp 0 rfl hv hiz rfl rfl (fun _ => rfl) rfl rfl (sizeTy_ok rfl); rintro _ w3 ⟨rfl, hp⟩)
    (repeat (with_reducible first | apply WP_region | apply wpl_nil | apply thenQ_n | apply inBlk_n))
    (apply wlp; exact pv_add rfl rfl; exact int_eq (i64_in (by omega) (by omega)))
    (repeat (first | (with_reducible first | apply wpl_nil | apply thenQ_n) | (apply wlp; apply pv_move; exact fI rfl)))
    exact ⟨i + 1, _, put_self (Same.eq (by repeat (first | exact Same.hav | exact Same.refl | refine Same.put rfl ?_ | refine Same.havs rfl ?_))) rfl, ⟨by omega, by rw [hz, idn_step hlt], hv.set _ _, hp⟩, by omega⟩
  · obtain rfl : i = n := by omega
    obtain rfl : z = idn i := by rw [hz]; simp
    (repeat (first | (with_reducible first | apply WP_seq | apply WP_region | apply wpl_nil | apply thenQ_n | apply thenQ_exit | apply WP_ret | apply WP_exit) | ((with_reducible apply inBlk_same); exact rfl) | (apply wlp; (first | apply pv_move | apply pv_assign); exact fS rfl)))
    exact ret_tmp rfl rfl ⟨_, rfl, g, rfl, hv, hp⟩
theorem p48 (n : Nat) (w : World) (hn : n ≤ 40) : Ret Tryz.prog 48 [.int .i64 (n : Int)] w (fun v w' => ∃ s c, v = .slice s (wts n).length c ∧ SVL s c (wts n) ∧ Hp w [] w' [ownL eS 53 1 s c (wts n)]) := by
  have hw0 := wts_zero
  refine Ret.of_WP Tryz.func48 rfl Tryz.ntmps48 rfl ?_
  have hp := Hp.start (M := []) (w := w)
  (repeat (first | (with_reducible first | apply WP_seq | apply WP_region | apply wpl_nil | apply thenQ_n) | (apply wlp; apply pv_assign; exact fS rfl)))
  (apply wls; exact st_call rfl ent43 rfl (c13 1 _ (by decide)); rintro _ w1 ⟨rfl, hk⟩; have hp := hp.call hk)
  (apply wls; exact sf_slice hp rfl rfl rfl rfl rfl rfl rfl; rintro _ w2 ⟨g, rfl, hp⟩)
  have hp : Hp w [] w2 [blk g 1 (frOf [.string (ofN 1)]) 53] := hp
  have hp := hp.rowOf (cs := [.string (ofN 1)]) 0 1 1 rfl rfl
  have hp : Hp w [] w2 [ownL eS 53 1 (some ⟨g, 0, none⟩) 1 (wts 0)] := by rw [hw0]; exact hp
  have hv : SVL (some ⟨g, 0, none⟩) 1 (wts 0) := by rw [hw0]; exact .inr ⟨g, 1, rfl, Nat.le_refl _, by unfold maxLen; omega⟩
  (repeat (first | (with_reducible first | apply WP_seq | apply WP_block | apply WP_region | apply wpl_nil | apply thenQ_n) | (apply wlp; apply pv_assign; (first | exact fI rfl | exact fS rfl))))
  refine WP_loop3 [3, 4, 7, 8, 9, 10, 11, 12, 13, 14, 15, 16, 17, 18, 19, 20, 21, 22] (fun (i : Nat) (s : Option Addr) (c : Nat) F => (F.put 4 (.int .i64 ((i + 1 : Nat) : Int))).put 3 (.slice s (wts i).length c)) (fun i s c w' => i ≤ n ∧ SVL s c (wts i) ∧ Hp w [] w' [ownL eS 53 1 s c (wts i)]) (fun i _ _ => n - i) 0 (some ⟨g, 0, none⟩) 1 (put_self (put_self (Same.eq .refl) rfl) (by rw [wts_len]; rfl)) ⟨Nat.zero_le _, hv, hp⟩ ?_
  clear hv
  (repeat clear hp)
  rintro u i s c w3 ⟨hi, hv, hp⟩
  have hwl := wts_len i
  (repeat (first | (with_reducible first | apply WP_seq | apply WP_region | apply wpl_nil | apply thenQ_n) | (apply wlp; ((first | apply pv_move | apply pv_leq) <;> exact rfl); (first | exact fI rfl | exact fB rfl))))
  refine WP_cond_d rfl (fun h => ?_) (fun h => ?_)
  · have hlt : i < (wts i).length := by omega
    have hfi : Fit (fact i) := fact_fit (by omega)
    have hgi := wts_get (n := i) (Nat.le_refl i)
    obtain ⟨g1, hs1⟩ := hv.addr (by intro h0; rw [h0] at hwl; simp at hwl)
    subst hs1
    have hfs : fact i * (i + 1) = fact (i + 1) := by rw [fact_succ, Nat.mul_comm]
    (repeat (with_reducible first | apply WP_seq | apply WP_block | apply thenQ_n | apply WP_skip))
    refine WP_drawS mixed (by kernel_rfl) (fun w' => Hp w [] w' [ownL eS 53 1 (some ⟨g1, 0, none⟩) c (wts i)]) hp.drew ?_
    have hp := hp.drew
    (repeat ((apply wdp; exact rfl); (intro w hp; intros; apply pv_move); (intros; (first | exact fI rfl | exact fS rfl))))
    (apply wdp; exact rfl; (intro w hp; exact pv_sub rfl rfl); exact int_eq (b := ((i : Nat) : Int)) (by rw [i64_in (by omega) (by omega)]; omega))
    (repeat ((apply wdp; exact rfl); (intro w hp; intros; ((first | (apply pf_load; exact rfl) | (apply pf_index; exact rfl)) <;> (first | exact rfl | assumption))); (intros; exact fP rfl)))
    (apply wdp; exact rfl; (intro w hp; exact pf_load rfl rfl (own_elem hp 0 rfl hv (fun _ => rfl) hgi 0 _ rfl)); exact fT rfl)
    (repeat ((apply wdp; exact rfl); (intro w hp; intros; apply pv_move); (intros; exact fI rfl)))
    (apply wds; exact rfl; exact st_call rfl ent43 rfl (c13 ((i + 1 : Nat) : Int) _ (by omega)); rintro _ w4 ⟨rfl, hk⟩; have hp := hp.call hk; refine ⟨hp, ?_⟩)
    rw [Int.toNat_natCast]
    (apply wds; exact rfl; exact st_call rfl ent50 rfl (c18 (fact i) (i + 1) _ hfi (Fit.small (by omega))); rintro _ w5 ⟨rfl, hk⟩; have hp := hp.call hk; refine ⟨hp, ?_⟩)
    rw [hfs]
    (apply wds; exact rfl; exact sf_slice hp rfl rfl rfl rfl rfl rfl rfl; rintro _ w6 ⟨g2, rfl, hp⟩; refine ⟨hp.tail, ?_⟩)
    (apply wdsS; exact rfl; exact rfl; exact sf_app1 eS (wts i) (ofN (fact (i + 1))) hp 1 0 rfl rfl rfl rfl rfl rfl (fun _ => rfl) rfl rfl rfl hv rfl rfl (by omega); rintro _ w7 ⟨s', c', rfl, hv', hp⟩)
    rw [← wts_succ] at hv' hp
    rw [← wts_succ]
    (repeat ((apply wdp; exact rfl); (intro w hp; intros; apply pv_assign); (intros; exact fS rfl)))
    refine wpd_nil ?_
    (repeat (first | (with_reducible first | apply WP_region | apply thenQ_n | apply inBlk_n) | (apply wlp; apply pv_move; exact fI rfl)))
    (apply wlp; exact pv_add rfl rfl; exact int_eq (i64_in (by omega) (by omega)))
    (repeat (first | (with_reducible first | apply wpl_nil | apply thenQ_n) | (apply wlp; apply pv_assign; exact fI rfl)))
    exact ⟨i + 1, s', c', put_self (put_self (Same.eq (by repeat (first | exact Same.hav | exact Same.refl | refine Same.put rfl ?_ | refine Same.havs rfl ?_))) (int_eq (by omega))) rfl, ⟨by omega, hv', hp.tail⟩, by omega⟩
  · obtain rfl : i = n := by omega
    (repeat (first | (with_reducible first | apply WP_seq | apply WP_region | apply wpl_nil | apply thenQ_n | apply thenQ_exit | apply WP_ret | apply WP_exit) | ((with_reducible apply inBlk_same); exact rfl) | (apply wlp; (first | apply pv_move | apply pv_assign); exact fS rfl)))
    exact ret_tmp rfl rfl ⟨_, rfl, s, c, rfl, hv, hp⟩
end Go.Proofs.YtfjbioghpgmkiaaGreatDoor
/- places.isOrder, slices.Delete; conditions: small numbers, the lists lie in memory. -/
namespace Go.Proofs.YtfjbioghpgmkiaaGreatDoor
open Go.Eng Go.Dig

/-! a call that writes a list of ours -/
def rowAt (w : World) (b c : Nat) (l : List Int) : Prop := ∃ o, w.heap[b]? = some o ∧ rowB 3 1 c l.length (l.flatMap eI) o
theorem Hp.callU {w0 w w' : World} {M : List Nat} {L : List Ent} {b c : Nat} {l l' : List Int} (hp : Hp w0 M w L) (i : Nat) (hi : L[i]? = some (ownL eI 3 1 (some ⟨b, 0, none⟩) c l)) (hk : Keeps [b] w w') (ho : rowAt w' b c l') :
    Hp w0 M w' (L.set i (ownL eI 3 1 (some ⟨b, 0, none⟩) c l')) :=
  hp.upd hi hk (by
    intro q hq
    have : (some b : Option Nat) = some q := hq
    have : q = b := by simpa [eq_comm] using this
    subst this
    exact ⟨.inl rfl, ho⟩)
theorem Hp.rowat {w0 w : World} {M : List Nat} {L : List Ent} {b c : Nat} {l : List Int} (hp : Hp w0 M w L) (i : Nat) (hi : L[i]? = some (ownL eI 3 1 (some ⟨b, 0, none⟩) c l)) : rowAt w b c l := hp.has i _ hi b rfl
theorem Hp.ofRow {w : World} {b c : Nat} {l : List Int} (h : rowAt w b c l) : Hp w [b] w [ownL eI 3 1 (some ⟨b, 0, none⟩) c l] := by
  obtain ⟨o, ho, hr⟩ := h
  exact (Hp.start (M := [b]) (w := w)).adopt (b := b) (o := o) (by simp) ho hr (fun i p hi => by simp at hi)

section
variable {n : FrK} {w0 w : World} {M : List Nat} {L : List Ent} {F : Fr} {d : Option Tmp} {ty : TypeId} {pos : String} {aft : Array Edge} {g : Option (Nat × Bool)} {x y : Operand}
/-- make([]T, 0, m) -/
theorem sf_make0 {α : Type} (enc : α → List Value) {t e by_ m : Nat} {kl kc : IntKind} {z : Value} (hp : Hp w0 M w L) (ht : slTy t = some (e, 1)) (hz : zeroTy e = some z) (hby : byteTy e = some by_)
    (hx : ev n F x = .int kl 0) (hy : ev n F y = .int kc m) (_h1 : oneV z = true) (hm : m < 1000000000) (hb : Nat.ble by_ 1000 = true) :
    StepF Tryz.prog n ⟨d, .makeSlice t x y, ty, pos, aft, g⟩ F w (fun u w' => ∃ b, u = .slice (some ⟨b, 0, none⟩) ([] : List α).length m ∧ SVL (some ⟨b, 0, none⟩) m ([] : List α) ∧ Hp w0 M w' (ownL enc e 1 (some ⟨b, 0, none⟩) m ([] : List α) :: L)) := by
  have hty := (slTy_ok ht).1
  have hs := (slTy_ok ht).2
  have hz := zeroTy_ok hz
  obtain ⟨inf, hinf, hib⟩ := (byteTy_ok hby).ex
  have his : inf.size = 1 := by
    unfold TSize at hs
    simpa [hinf] using hs
  have hiz : inf.zero = some z := by
    unfold TZero at hz
    simpa [hinf] using hz
  have hb' := Nat.le_of_ble_eq_true hb
  have hbm : by_ * m ≤ 1000 * 1000000000 := Nat.mul_le_mul hb' (by omega)
  have hbm' : (inf.bytes : Int) * (m : Int) ≤ 281474976710656 := by
    rw [hib]
    have : ((by_ * m : Nat) : Int) ≤ 281474976710656 := by omega
    rwa [Int.natCast_mul] at this
  have hr := run_make (P := Tryz.prog) w t e inf z hty hinf hiz kl kc 0 m (by omega) (by omega) hbm' (by omega)
  refine stepF_val (v := .slice (some ⟨w.heap.size, 0, none⟩) 0 m) (w' := w.alloc (.cells (madeCells z.cells (m * 1)) e)) ?_ ⟨w.heap.size, rfl, ?_, ?_⟩
  · rw [his] at hr
    simp only [Int.toNat_natCast] at hr
    simp [execOp, hx, hy, hr]
  · exact .inr ⟨_, m, rfl, Nat.zero_le _, by unfold maxLen; omega⟩
  · exact hp.alloc _ ⟨_, rfl, by simp [scap, size_madeCells], by simp⟩
/-- clear of one cell behind an owned list -/
theorem st_clear1 {α : Type} (enc : α → List Value) {t e b c k cc : Nat} {z : Value} {l : List α} (hp : Hp w0 M w L) (j : Nat) (hj : L[j]? = some (ownL enc e 1 (some ⟨b, 0, none⟩) c l)) (ht : slTy t = some (e, 1)) (hz : zeroTy e = some z) (h1 : oneV z = true)
    (hx : ev n F x = .slice (some ⟨b, 0 + k * 1, none⟩) 1 cc) (hk : l.length ≤ k) (hkc : k < c) (hen : ∀ x, (enc x).length = 1) :
    StepF Tryz.prog n ⟨d, .call ⟨.builtin .clear, #[x], #[t]⟩, ty, pos, aft, g⟩ F w (fun u w' => u = .tuple #[] ∧ Hp w0 M w' L) := by
  have hty := (slTy_ok ht).1
  have hz := zeroTy_ok hz
  obtain ⟨o, ho, cur, rfl, hsz, htk⟩ := hp.has j _ hj b rfl
  have hsz : cur.size = c * 1 := hsz
  obtain ⟨w', hr, hk', hb'⟩ := run_storeC (P := Tryz.prog) (o := 0 + k * 1) (v := z) ho (by omega) h1
  have hzc : z.cells = #[z] := by cases z <;> first | rfl | cases h1
  have hlen : (l.flatMap enc).length = l.length * 1 := flatMap_len enc 1 hen l
  refine stepF_val (v := .tuple #[]) (w' := w') ?_ ⟨rfl, hp.callE j hj hk' ⟨_, hb', cur.setIfInBounds (0 + k * 1) z, rfl, ?_, ?_⟩⟩
  · have hzz : (Builtin.zeroCells #[z] 1).toList = [z] := by
      unfold Builtin.zeroCells
      show (Array.map (fun i => (#[z] : Array Value)[i % 1]!) (Array.range 1)).toList = [z]
      rw [Array.toList_map]
      simp [Nat.mod_one, Array.range]
    simp only [execOp, resolve, Sem.run_bind, Sem.run_pure, Result.andThen_ok, invoke, builtin]
    simp [hx, Builtin.clear_, run_und hty, hz.run, hzc, hzz, storeCells, addr_add]
    simp only [Nat.zero_add, Nat.mul_one] at hr
    simp [hr]
  · show _ = c * 1
    simp
    omega
  · rw [← htk]
    simp only [Array.toList_setIfInBounds]
    rw [List.take_set, List.set_eq_of_length_le (by rw [List.length_take]; omega)]
end

attribute [local irreducible] PV StepF wpl wpd WP Ret
attribute [local irreducible] Fit fact idn wts seenL

theorem p47 (n : Nat) (l : List Int) (s : Option Addr) (c : Nat) (w : World) (hs : SlAt w 1 eI s l) (_hl : l.length ≤ 9223372036854775806) (hn : n ≤ 1000) :
    Ret Tryz.prog 47 [.slice s l.length c, .int .i64 (n : Int)] w (fun v w' => v = .bool (isO n l) ∧ Keeps [] w w') := by
  refine Ret.of_WP Tryz.func47 rfl Tryz.ntmps47 rfl ?_
  have hp := Hp.start (M := []) (w := w)
  (repeat (first | (with_reducible first | apply WP_seq | apply WP_region | apply wpl_nil | apply thenQ_n) | (apply wlp; ((first | apply pv_move | apply pv_assign | (apply pf_len; exact rfl) | (apply pv_neq; (first | exact rfl | exact ev_sel rfl (by assumption)))) <;> exact rfl); (first | exact fI rfl | exact fB rfl | exact fS rfl))))
  refine WP_cond_nd rfl (fun h => ?_) (fun h => ?_)
  · have hz : isO n l = false := by
      unfold isO
      rw [decide_eq_false (by omega)]
      rfl
    rw [hz]
    (repeat (first | (with_reducible first | apply WP_seq | apply WP_region | apply wpl_nil | apply thenQ_n | apply thenQ_ret | apply WP_ret) | (apply wlp; apply pv_assign; exact fB rfl)))
    exact ret_tmp rfl rfl ⟨_, rfl, rfl, hp.keeps⟩
  have hln : l.length = n := by omega
  clear h
  have hO : isO n l = (l.all (fun x => decide (0 ≤ x) && decide (x < n)) && decide l.Nodup) := by
    unfold isO
    rw [decide_eq_true hln]
    rfl
  rw [hO]
  (repeat (first | (with_reducible first | apply WP_seq | apply WP_region | apply thenQ_n | apply WP_skip) | (apply wlp; apply pv_move; exact fI rfl)))
  (apply wls; exact sf_make eBo false hp rfl rfl rfl rfl rfl rfl rfl (by omega) rfl; rintro _ w1 ⟨g, rfl, hv, hp⟩)
  rw [← seenL_nil] at hv hp
  (repeat (first | (with_reducible first | apply WP_seq | apply WP_block | apply WP_region | apply wpl_nil | apply thenQ_n) | (apply wlp; ((first | apply pv_move | apply pv_assign | (apply pf_len; exact rfl)) <;> exact rfl); (first | exact fI rfl | exact fS rfl))))
  refine WP_loopS [4, 7, 16, 17, 18, 19, 20, 21, 22, 23, 24, 25, 26, 27, 28, 29, 30, 31, 32, 33, 34, 35, 36] (fun (i : Nat) F => F.put 16 (.int .i64 i)) (fun i w' => i ≤ n ∧ (l.take i).all (fun x => decide (0 ≤ x) && decide (x < n)) = true ∧ (l.take i).Nodup ∧ SVL (some ⟨g, 0, none⟩) n (seenL n (l.take i)) ∧ Hp w [] w' [ownL eBo 4 1 (some ⟨g, 0, none⟩) n (seenL n (l.take i))]) (fun i => n - i) 0 (put_self (Same.eq .refl) rfl) ⟨Nat.zero_le _, by simp, by simp, hv, hp⟩ ?_
  clear hv
  (repeat clear hp)
  rintro u i w2 ⟨hi, hall, hnd, hv, hp⟩
  (repeat (first | (with_reducible first | apply WP_seq | apply WP_region | apply wpl_nil | apply thenQ_n) | (apply wlp; (apply pv_lss <;> exact rfl); exact fB rfl)))
  refine WP_cond_d rfl (fun h => ?_) (fun h => ?_)
  · have hlt : i < l.length := by omega
    obtain ⟨b0, o0, hs0, hc0⟩ := hs.base (by omega)
    have hci := hc0 i _ (List.getElem?_eq_getElem hlt) 0 _ rfl
    have htk := List.take_succ_eq_append_getElem hlt
    have hsub : (l.take (i + 1)).Sublist l := List.take_sublist _ _
    generalize l[i] = x at hci htk
    have hci : w.cell? ⟨b0, o0 + i * 1, none⟩ = some (.int .i64 x) := hci
    have hbad : (0 ≤ x ∧ x < n ∧ x ∉ l.take i) ∨ (l.all (fun x => decide (0 ≤ x) && decide (x < n)) && decide l.Nodup) = false := by
      by_cases hx : 0 ≤ x ∧ x < n
      · by_cases hm : x ∈ l.take i
        · right
          have : ¬ l.Nodup := fun hh => (nodup_snoc.1 (htk ▸ hh.sublist hsub)).2 hm
          rw [decide_eq_false this, Bool.and_false]
        · exact .inl ⟨hx.1, hx.2, hm⟩
      · right
        have : l.all (fun x => decide (0 ≤ x) && decide (x < n)) = false := by
          cases h5 : l.all (fun x => decide (0 ≤ x) && decide (x < n))
          · rfl
          · rw [List.all_eq_true] at h5
            have := h5 x (hsub.subset (by rw [htk]; simp))
            simp at this
            exact absurd this hx
        rw [this, Bool.false_and]
    (repeat (with_reducible first | apply WP_seq | apply WP_block | apply WP_region | apply thenQ_n | apply WP_skip))
    (apply wlp; ((apply pf_index; exact rfl) <;> (first | exact rfl | assumption)); exact fP rfl)
    (apply wlp; ((apply pf_load; exact rfl) <;> (first | exact rfl | exact hp.old0 (by assumption))); exact fI rfl)
    (apply wlp; apply pv_assign; exact fI rfl)
    (repeat (with_reducible first | apply WP_seq | apply WP_region | apply wpl_nil | apply thenQ_n))
    (apply wlp; apply pv_move; exact fI rfl)
    by_cases h0 : x < 0
    · (apply wlp; (exact pv_lss rfl rfl); exact bool_eq (b := true) (decide_eq_true (by omega)))
      (repeat (first | (with_reducible first | apply wpl_nil | apply thenQ_n) | (apply wlp; (intros; (first | apply pv_move | exact pv_orT rfl)); (intros; exact fB rfl)) | (apply wlpF; exact rfl; exact rfl; exact rfl) | (apply wlpU; exact rfl; exact rfl)))
      refine WP_cond_t rfl ?_
      rw [hbad.resolve_left (by omega)]
      (repeat (first | (with_reducible first | apply WP_seq | apply WP_region | apply wpl_nil | apply thenQ_n | apply thenQ_ret | apply inBlk_ret | apply WP_ret) | (apply wlp; apply pv_assign; exact fB rfl)))
      exact ret_tmp rfl rfl ⟨_, rfl, rfl, hp.keeps⟩
    (apply wlp; (exact pv_lss rfl rfl); exact bool_eq (b := false) (decide_eq_false (by omega)))
    (apply wlp; apply pv_move; exact fB rfl)
    ((apply wlpT; exact rfl; exact rfl); (apply pv_move); (intros; exact fI rfl))
    ((apply wlpT; exact rfl; exact rfl); (apply pv_move); (intros; exact fI rfl))
    by_cases h1 : (n : Int) ≤ x
    · (apply wlpT; exact rfl; exact rfl; (exact pv_geq rfl rfl); exact bool_eq (b := true) (decide_eq_true (by omega)))
      (repeat (first | (with_reducible first | apply wpl_nil | apply thenQ_n) | (apply wlp; (intros; (first | apply pv_move | exact pv_orT rfl | exact pv_orF rfl rfl)); (intros; exact fB rfl)) | (apply wlpF; exact rfl; exact rfl; exact rfl) | (apply wlpU; exact rfl; exact rfl)))
      refine WP_cond_t rfl ?_
      rw [hbad.resolve_left (by omega)]
      (repeat (first | (with_reducible first | apply WP_seq | apply WP_region | apply wpl_nil | apply thenQ_n | apply thenQ_ret | apply inBlk_ret | apply WP_ret) | (apply wlp; apply pv_assign; exact fB rfl)))
      exact ret_tmp rfl rfl ⟨_, rfl, rfl, hp.keeps⟩
    (apply wlpT; exact rfl; exact rfl; (exact pv_geq rfl rfl); exact bool_eq (b := false) (decide_eq_false (by omega)))
    obtain ⟨k, rfl⟩ : ∃ k : Nat, x = k := ⟨x.toNat, by omega⟩
    have hkn : k < n := by omega
    have hkz : k < (seenL n (l.take i)).length := by rw [seenL_len]; exact hkn
    have hcz := own_elem hp 0 rfl hv (fun _ => rfl) (seenL_get (l.take i) hkn) 0 _ rfl
    have hcz : w2.cell? ⟨g, 0 + k * 1, none⟩ = some (.bool (decide ((k : Int) ∈ l.take i))) := hcz
    (repeat (first | (with_reducible first | apply wpl_nil | apply thenQ_n) | (apply wlp; (intros; ((first | apply pv_move | (apply pf_load; exact rfl) | exact pv_orF rfl rfl | (apply pf_index; exact rfl)) <;> (first | exact rfl | assumption))); (intros; (first | exact fI rfl | exact fB rfl | exact fP rfl | exact fS rfl))) | ((apply wlpT; exact rfl; exact rfl); (((first | apply pv_move | (apply pf_load; exact rfl) | exact pv_orF rfl rfl | (apply pf_index; exact rfl)) <;> (first | exact rfl | assumption))); (intros; (first | exact fI rfl | exact fB rfl | exact fP rfl | exact fS rfl))) | (apply wlpF; exact rfl; exact rfl; exact rfl) | (apply wlpU; exact rfl; exact rfl)))
    refine WP_cond_d rfl (fun h2 => ?_) (fun h2 => ?_)
    · rw [hbad.resolve_left (fun h => h.2.2 h2)]
      (repeat (first | (with_reducible first | apply WP_seq | apply WP_region | apply wpl_nil | apply thenQ_n | apply thenQ_ret | apply inBlk_ret | apply WP_ret) | (apply wlp; apply pv_assign; exact fB rfl)))
      exact ret_tmp rfl rfl ⟨_, rfl, rfl, hp.keeps⟩
    (repeat (first | (with_reducible first | apply WP_region | apply thenQ_n | apply WP_skip) | (apply wlp; ((first | apply pv_move | (apply pf_index; exact rfl)) <;> (first | exact rfl | assumption)); (first | exact fI rfl | exact fP rfl | exact fS rfl))))
    (apply wls0; exact st_setL eBo _ k true hp 0 rfl hv hkz rfl rfl (fun _ => rfl) rfl rfl (sizeTy_ok rfl); rintro _ w3 ⟨rfl, hp⟩)
    have hv := hv.set k true
    rw [seenL_set _ hkn, ← htk] at hv
    rw [seenL_set _ hkn, ← htk] at hp
    (repeat (with_reducible first | apply WP_region | apply wpl_nil | apply thenQ_n | apply inBlk_n))
    (apply wlp; exact pv_add rfl rfl; exact int_eq (i64_in (by omega) (by omega)))
    (repeat (first | (with_reducible first | apply wpl_nil | apply thenQ_n) | (apply wlp; apply pv_move; exact fI rfl)))
    refine ⟨i + 1, put_self (Same.eq (by repeat (first | exact Same.hav | exact Same.refl | refine Same.put rfl ?_ | refine Same.havs rfl ?_))) rfl, ⟨by omega, ?_, ?_, hv, hp⟩, by omega⟩
    · rw [htk, List.all_append, hall]
      simp
      omega
    · rw [htk]
      exact nodup_snoc.2 ⟨hnd, h2⟩
  · have e : l.take i = l := List.take_of_length_le (by omega)
    rw [e] at hall hnd
    rw [hall, decide_eq_true hnd]
    (repeat (first | (with_reducible first | apply WP_seq | apply WP_region | apply wpl_nil | apply thenQ_n | apply thenQ_exit | apply WP_ret | apply WP_exit) | ((with_reducible apply inBlk_same); exact rfl) | (apply wlp; apply pv_assign; exact fB rfl)))
    exact ret_tmp rfl rfl ⟨_, rfl, rfl, hp.keeps⟩
end Go.Proofs.YtfjbioghpgmkiaaGreatDoor
/- slices.Delete of one element, slices.Clone; conditions: the list is the call's own, an index within it. -/
namespace Go.Eng
section
variable {P : Program} {n : FrK} {w0 w : World} {M : List Nat} {L : List Ent} {F : Fr} {d : Option Tmp} {ty : TypeId} {pos : String} {aft : Array Edge} {g : Option (Nat × Bool)} {x y : Operand}
/-- x[l:h:m] of a slice -/
theorem pv_slice3 {t e k b o m c l h q : Nat} {k1 k2 k3 : IntKind} {lo hi mx : Operand} (ht : P.underlying t = some (.slice e)) (hk : TSize P e k) (hx : ev n F x = .slice (some ⟨b, o, none⟩) m c) (hl : ev n F lo = .int k1 l) (hh : ev n F hi = .int k2 h) (hm : ev n F mx = .int k3 q) (h1 : l ≤ h) (h2 : h ≤ q) (h3 : q ≤ c) (h4 : l < q) :
    PV P n w F ⟨d, .slice t x (some lo) (some hi) (some mx), ty, pos, aft, g⟩ (.slice (some ⟨b, o + l * k, none⟩) (h - l) (q - l)) := by
  have hb1 := run_bound (P := P) (w := w) (c := .slice3Acap) hm h3
  have hb2 := run_bound (P := P) (w := w) (c := .slice3B) hh h2
  have hb3 := run_bound (P := P) (w := w) (c := .slice3C) hl h1
  have hne : ¬ q = l := by omega
  simp [PV, execOp, Instr.sliceAt, Instr.slice, hx, run_und ht, Instr.sliceBounds, hb1, hb2, hb3, hk.run, hne, addr_add]
/-- x[l:] of a slice -/
theorem pv_sliceLo {t e k b o m c l : Nat} {q : IntKind} (ht : P.underlying t = some (.slice e)) (hk : TSize P e k) (hx : ev n F x = .slice (some ⟨b, o, none⟩) m c) (hl : ev n F y = .int q l) (h1 : l ≤ m) (_h2 : m ≤ c) :
    PV P n w F ⟨d, .slice t x (some y) none none, ty, pos, aft, g⟩ (.slice (some ⟨b, if c = l then o else o + l * k, none⟩) (m - l) (c - l)) := by
  have hb3 := run_bound (P := P) (w := w) (c := .sliceB) hl h1
  by_cases hne : c = l
  · simp [PV, execOp, Instr.sliceAt, Instr.slice, hx, run_und ht, Instr.sliceBounds, hb3, hk.run, hne]
  · simp [PV, execOp, Instr.sliceAt, Instr.slice, hx, run_und ht, Instr.sliceBounds, hb3, hk.run, hne, addr_add]
/-- append onto an owned list that has room -/
theorem st_appRoom {t e by_ : Nat} {z : Value} {m k c gb cap : Nat} {xs news : List Value} {s : Option Addr} (hp : Hp w0 M w L) (i : Nat) (ht : P.underlying t = some (.slice e)) (hs : TSize P e 1) (hby : TBytes P e by_) (_hz : TZero P e z)
    (hx : ev n F x = .slice (some ⟨gb, 0, none⟩) m cap) (hy : ev n F y = .slice s k c) (hi : L[i]? = some (some gb, rowB e 1 cap m xs)) (hl : xs.length = m) (hn : news.length = k)
    (hsrc : ∀ (j : Nat) (u : Value), news[j]? = some u → ∃ b o, s = some ⟨b, o, none⟩ ∧ w.cell? ⟨b, o + j, none⟩ = some u) (h1 : ∀ u ∈ news, oneV u = true) (hroom : m + k ≤ cap) :
    StepF P n ⟨d, .call ⟨.builtin .append, #[x, y], #[t, t]⟩, ty, pos, aft, g⟩ F w (fun u w' => u = .slice (some ⟨gb, 0, none⟩) (m + k) cap ∧ Hp w0 M w' (L.set i (some gb, rowB e 1 cap (m + k) (xs ++ news)))) := by
  obtain ⟨inf, hinf, hib⟩ := hby.ex
  have his : inf.size = 1 := by
    unfold TSize at hs
    simpa [hinf] using hs
  have hone : ∀ u ∈ news, u.oneCell' = true := by
    intro u hu
    have := h1 u hu
    cases u <;> first | rfl | (cases this)
  obtain ⟨o9, ho9, cur9, rfl, hsz9, htk9⟩ := hp.has i _ hi gb rfl
  by_cases hk : k = 0
  · subst hk
    have hnn : news = [] := List.eq_nil_of_length_eq_zero hn
    subst hnn
    have hrun : (Builtin.append_ #[t, t] ty #[.slice (some ⟨gb, 0, none⟩) m cap, .slice s 0 c]).run P w = .ok (.slice (some ⟨gb, 0, none⟩) m cap) w := by
      have h2 : m ≤ cap := by omega
      cases s <;> simp [Builtin.append_, run_und ht, hs.run, Builtin.lenOf, Builtin.firstCells, loadCells, loadCellsFrom, h2, storeCells]
    refine stepF_val (v := .slice (some ⟨gb, 0, none⟩) m cap) (w' := w) ?_ ⟨rfl, ?_⟩
    · simp only [execOp, resolve, Sem.run_bind, Sem.run_pure, Result.andThen_ok, invoke, builtin]
      simp [hx, hy, hrun]
    · simp only [Nat.add_zero, List.append_nil]
      rw [set_same hi]
      exact hp
  · have hnl : 0 < news.length := by omega
    obtain ⟨b, o, hsa, _⟩ := hsrc 0 news[0] (List.getElem?_eq_getElem hnl)
    subst hsa
    have hcells : ∀ (j : Nat) (u : Value), news[j]? = some u → w.cell? ((⟨b, o, none⟩ : Addr).add j) = some u := by
      intro j u hu
      obtain ⟨b', o', e1, e2⟩ := hsrc j u hu
      cases e1
      rw [addr_add]
      exact e2
    have hfit : m * inf.size + news.length ≤ cur9.size := by rw [his, hsz9]; omega
    have hr := run_append_room (P := P) w t ty e inf ht hinf gb m cap cur9 ho9 ⟨b, o, none⟩ k c news (by rw [his]; omega) hcells hone hroom hfit
    have hgl := (Array.getElem?_eq_some_iff.1 ho9).1
    refine stepF_val (v := .slice (some ⟨gb, 0, none⟩) (m + k) cap) ?_ ⟨rfl, hp.upd hi (w' := w.setRow gb (cur9.toList.take (m * inf.size) ++ news ++ cur9.toList.drop (m * inf.size + news.length)).toArray) ?_ ?_⟩
    · simp only [execOp, resolve, Sem.run_bind, Sem.run_pure, Result.andThen_ok, invoke, builtin]
      simp [hx, hy, hr]
    · refine ⟨rfl, rfl, rfl, by simp [World.setRow], fun q hq hm => ?_⟩
      have hne : gb ≠ q := by
        rintro rfl
        apply hm
        simp
      simp only [World.setRow, Array.getElem?_modify]
      rw [if_neg hne]
    · intro q hq
      have hqg : q = gb := by
        have : (some gb : Option Nat) = some q := hq
        simpa [eq_comm] using this
      subst hqg
      refine ⟨.inl rfl, _, ?_, (cur9.toList.take (m * inf.size) ++ news ++ cur9.toList.drop (m * inf.size + news.length)).toArray, rfl, ?_, ?_⟩
      · simp only [World.setRow, Array.getElem?_modify, if_true, ho9, Option.map_some]
      · have : cur9.toList.length = cap * 1 := by simpa using hsz9
        simp
        omega
      · rw [his]
        have hcl : cur9.toList.length = cap * 1 := by simpa using hsz9
        simp only [Nat.mul_one] at htk9 ⊢
        rw [htk9, List.take_append_of_le_length (by simp; omega), List.take_of_length_le (by simp; omega)]
end
end Go.Eng
namespace Go.Proofs.YtfjbioghpgmkiaaGreatDoor
open Go.Eng Go.Dig
theorem flat_eI (l : List Int) : (l.flatMap eI).length = l.length := by rw [flatMap_len eI 1 (fun _ => rfl), Nat.mul_one]
theorem flat_take (l : List Int) (i : Nat) : (l.flatMap eI).take i = (l.take i).flatMap eI := by
  induction l generalizing i with
  | nil => simp
  | cons x l ih =>
    cases i with
    | zero => simp
    | succ i => simp [eI, ih]
theorem flat_one {l : List Int} : ∀ u ∈ l.flatMap eI, oneV u = true := by
  intro u hu
  simp only [List.mem_flatMap, eI, List.mem_singleton] at hu
  obtain ⟨x, _, rfl⟩ := hu
  rfl
theorem SlAt.drop {w : World} {b o : Nat} {l : List Int} (h : SlAt w 1 eI (some ⟨b, o, none⟩) l) (k : Nat) : SlAt w 1 eI (some ⟨b, o + k * 1, none⟩) (l.drop k) := by
  intro i x hx
  rw [List.getElem?_drop] at hx
  obtain ⟨b', o', e, hc⟩ := h _ x hx
  cases e
  refine ⟨b, _, rfl, fun j v hv => ?_⟩
  have := hc j v hv
  rw [show o + k * 1 + i * 1 + j = o + (k + i) * 1 + j from by omega]
  exact this
theorem rowB_take {c i : Nat} {l : List Int} {o : Obj} (hi : i ≤ l.length) (h : rowB 3 1 c l.length (l.flatMap eI) o) : rowB 3 1 c i ((l.take i).flatMap eI) o := by
  obtain ⟨cur, h1, h2, h3⟩ := h
  refine ⟨cur, h1, h2, ?_⟩
  rw [← flat_take, ← h3, List.take_take, Nat.mul_one, Nat.min_eq_left (by omega)]
theorem erase_split (l : List Int) (i : Nat) : l.eraseIdx i = l.take i ++ l.drop (i + 1) := List.eraseIdx_eq_take_drop_succ l i

theorem sl30 : Tryz.prog.underlying 30 = some (.slice 3) ∧ TSize Tryz.prog 3 1 := slTy_ok rfl

attribute [local irreducible] PV StepF wpl wpd WP Ret
attribute [local irreducible] Fit

theorem p53 (l : List Int) (b c i : Nat) (w : World) (hr : rowAt w b c l) (hc : l.length ≤ c) (hi : i < l.length) (hcm : c ≤ 1000000) :
    Ret Tryz.prog 53 [.slice (some ⟨b, 0, none⟩) l.length c, .int .i64 (i : Int), .int .i64 ((i + 1 : Nat) : Int)] w (fun v w' => v = .slice (some ⟨b, 0, none⟩) (l.eraseIdx i).length c ∧ Keeps [b] w w' ∧ rowAt w' b c (l.eraseIdx i)) := by
  have hel : (l.eraseIdx i).length = l.length - 1 := List.length_eraseIdx_of_lt hi
  refine Ret.of_WP Tryz.func53 rfl Tryz.ntmps53 rfl ?_
  have hp := Hp.ofRow hr
  have hv : SVL (some ⟨b, 0, none⟩) c l := .inr ⟨b, c, rfl, hc, by unfold maxLen; omega⟩
  (repeat (first | (with_reducible first | apply WP_seq | apply WP_region | apply wpl_nil | apply thenQ_n) | (apply wlp; ((first | apply pv_move | apply pv_assign | (apply pf_len; exact rfl)) <;> exact rfl); (first | exact fI rfl | exact fS rfl))))
  (apply wlp; exact pv_slice3 sl30.1 sl30.2 rfl rfl rfl rfl (by omega) (by omega) (by omega) hi; exact fS rfl)
  (repeat (first | (with_reducible first | apply WP_seq | apply WP_region | apply wpl_nil | apply thenQ_n) | (apply wlp; ((first | apply pv_move | (apply pv_eql; (first | exact rfl | exact ev_sel rfl (by assumption)))) <;> exact rfl); (first | exact fI rfl | exact fB rfl))))
  refine WP_cond_d rfl (fun h => absurd h (by omega)) (fun _ => ?_)
  (repeat (first | (with_reducible first | apply WP_seq | apply WP_region | apply wpl_nil | apply thenQ_n | apply WP_skip) | (apply wlp; ((first | apply pv_move | apply pv_assign | (apply pf_len; exact rfl)) <;> exact rfl); (first | exact fI rfl | exact fS rfl))))
  refine WP_drawS mixed (by kernel_rfl) (fun w' => Hp w [b] w' [ownL eI 3 1 (some ⟨b, 0, none⟩) c l]) hp.drew ?_
  have hp := hp.drew
  (repeat ((apply wdp; exact rfl); (intro w hp; intros; apply pv_move); (intros; (first | exact fI rfl | exact fS rfl))))
  (apply wdp; exact rfl; (intro w hp; exact pv_sliceHi sl30.1 sl30.2 rfl rfl (by omega)); exact fS rfl)
  (repeat ((apply wdp; exact rfl); (intro w hp; intros; apply pv_move); (intros; (first | exact fI rfl | exact fS rfl))))
  (apply wdp; exact rfl; (intro w hp; exact pv_sliceLo sl30.1 sl30.2 rfl rfl (by omega) hc); exact fS rfl)
  have hsl := ownL_At hp 0 rfl hv (fun _ => rfl)
  have hsrc : ∀ (j : Nat) (u : Value), ((l.drop (i + 1)).flatMap eI)[j]? = some u → ∃ b' o', (some ⟨b, if c = i + 1 then 0 else 0 + (i + 1) * 1, none⟩ : Option Addr) = some ⟨b', o', none⟩ ∧ w.drew.cell? ⟨b', o' + j, none⟩ = some u := by
    intro j u hu
    have h1 := (List.getElem?_eq_some_iff.1 hu).1
    rw [flat_eI, List.length_drop] at h1
    rw [if_neg (by omega)]
    exact (SlAt.drop hsl (i + 1)).src (fun _ => rfl) j u hu
  have hp := hp.weak (i := 0) (φ := rowB 3 1 c i ((l.take i).flatMap eI)) rfl (fun o ho => rowB_take (by omega) ho)
  have e1 : i + (l.length - (i + 1)) = (l.eraseIdx i).length := by omega
  (apply wdsS; exact rfl; exact rfl; exact st_appRoom (xs := (l.take i).flatMap eI) (news := (l.drop (i + 1)).flatMap eI) hp 0 sl30.1 sl30.2 (byteTy_ok rfl) (zeroTy_ok rfl) rfl rfl rfl (by rw [flat_eI, List.length_take]; omega) (by rw [flat_eI, List.length_drop]) hsrc flat_one (by omega); rintro _ w2 ⟨rfl, hp⟩)
  rw [e1] at hp
  rw [← List.flatMap_append, ← erase_split] at hp
  rw [e1]
  have hp : Hp w [b] w2 [ownL eI 3 1 (some ⟨b, 0, none⟩) c (l.eraseIdx i)] := hp
  generalize l.eraseIdx i = l' at *
  (repeat ((apply wdp; exact rfl); (intro w hp; intros; apply pv_assign); (intros; exact fS rfl)))
  refine wpd_nil ?_
  (repeat (first | (with_reducible first | apply WP_seq | apply WP_region | apply thenQ_n) | (apply wlp; ((first | apply pv_move | (apply pf_len; exact rfl)) <;> exact rfl); (first | exact fI rfl | exact fS rfl))))
  (apply wlp; exact pv_sliceLH sl30.1 sl30.2 rfl rfl rfl (by omega) (by omega) (by omega); exact sl_eq (m' := 1) (by omega))
  (apply wls0; exact st_clear1 eI hp 0 rfl rfl rfl rfl rfl (Nat.le_refl _) (by omega) (fun _ => rfl); rintro _ w3 ⟨rfl, hp⟩)
  (repeat (first | (with_reducible first | apply WP_seq | apply WP_region | apply wpl_nil | apply thenQ_n | apply WP_ret) | (apply wlp; (first | apply pv_move | apply pv_assign); exact fS rfl)))
  exact ret_tmp rfl rfl ⟨_, rfl, rfl, hp.keeps, Hp.rowat hp 0 rfl⟩
end Go.Proofs.YtfjbioghpgmkiaaGreatDoor
/- places.Order; conditions: a number of at most 4000 bits. -/
namespace Go.Proofs.YtfjbioghpgmkiaaGreatDoor
open Go.Eng Go.Dig

/-- the numbers of L in the order with the number x -/
def dec : Nat → List Int → Nat → List Int
  | 0, _, _ => []
  | k + 1, L, x => (L[x / fact k]?).getD 0 :: dec k (L.eraseIdx (x / fact k)) (x % fact k)
def ordN (n x : Nat) : List Int := dec n (idn n) x
theorem dec_len : ∀ (k : Nat) (L : List Int) (x : Nat), (dec k L x).length = k
  | 0, _, _ => rfl
  | k + 1, L, x => by rw [dec, List.length_cons, dec_len k]
theorem ordN_len (n x : Nat) : (ordN n x).length = n := dec_len n _ _
theorem dec_zero (L : List Int) (x : Nat) : dec 0 L x = [] := rfl
theorem dec_step {k i x : Nat} {L : List Int} {y : Int} (h1 : i * fact k ≤ x) (h2 : x - i * fact k < fact k) (hy : L[i]? = some y) : dec (k + 1) L x = y :: dec k (L.eraseIdx i) (x - i * fact k) := by
  have hd : x / fact k = i := by
    refine Nat.div_eq_of_lt_le ?_ ?_
    · exact h1
    · rw [Nat.add_mul]
      omega
  have hm : x % fact k = x - i * fact k := by
    rw [Nat.mod_eq_sub_mul_div, hd, Nat.mul_comm]
  rw [dec, hd, hm, hy]
  rfl
structure OS where
  L : List Int
  O : List Int
  st : ByteArray
  x : Nat
  s : Option Addr
  c : Nat

attribute [local irreducible] PV StepF wpl wpd WP Ret
attribute [local irreducible] Fit fact idn wts NS dec

theorem p22f (n : Int) (st : ByteArray) (x : Nat) (w : World) (hst : NS st x) (h : n < 0 ∨ 40 < n ∨ fact n.toNat ≤ x) : Ret Tryz.prog 22 [.int .i64 n, .string st] w (fun v w' => v = .tuple #[.slice none 0 0, .bool false] ∧ Keeps [] w w') := by
  refine Ret.of_WP Tryz.func22 rfl Tryz.ntmps22 rfl ?_
  have hp := Hp.start (M := []) (w := w)
  (repeat (first | (with_reducible first | apply WP_seq | apply WP_region | apply wpl_nil | apply thenQ_n | apply WP_scope) | ((first | apply wlp | (apply wlg; exact rfl; exact rfl)); (intros; ((first | apply pv_move | apply pv_assign | exact pv_or rfl rfl rfl | apply pv_lss | apply pv_gtr) <;> (first | exact rfl | exact ev_sel rfl (by assumption)))); (intros; (first | exact fI rfl | exact fB rfl | exact fS rfl)))))
  refine WP_cond rfl (fun h1 => ?_) (fun h1 => ?_)
  · (repeat (first | (with_reducible first | apply WP_seq | apply WP_region | apply wpl_nil | apply thenQ_n | apply thenQ_ret | apply WP_ret | apply ngQ_ret) | (apply wlp; apply pv_assign; (first | exact fB rfl | exact fS rfl))))
    exact ret_tmp2 rfl rfl rfl ⟨_, rfl, rfl, hp.keeps⟩
  have hn : 0 ≤ n ∧ n ≤ 40 := by simp at h1; omega
  obtain ⟨N, rfl⟩ : ∃ N : Nat, n = N := ⟨n.toNat, by omega⟩
  rw [Int.toNat_natCast] at h
  have hx : fact N ≤ x := by omega
  have hwl := wts_len N
  (repeat (first | (with_reducible first | apply WP_seq | apply WP_region | apply thenQ_n | apply WP_skip) | (apply wlp; apply pv_move; exact fI rfl)))
  (apply wls; exact st_call rfl ent48 rfl (p48 N _ (by omega)); rintro _ w1 ⟨s1, c1, rfl, hv1, hpo⟩; have hp := hp.join hpo; clear hpo)
  obtain ⟨g1, hs1⟩ := hv1.addr (by intro h0; rw [h0] at hwl; simp at hwl)
  subst hs1
  have hlt : N < (wts N).length := by omega
  have hci := own_elem hp 0 rfl hv1 (fun _ => rfl) (wts_get (n := N) (Nat.le_refl N)) 0 _ rfl
  have hci : w1.cell? ⟨g1, 0 + N * 1, none⟩ = some (.string (ofN (fact N))) := hci
  (repeat (first | (with_reducible first | apply WP_seq | apply WP_region | apply wpl_nil | apply thenQ_n) | (apply wlp; ((first | apply pv_move | apply pv_assign | (apply pf_load; exact rfl) | (apply pf_index; exact rfl)) <;> (first | exact rfl | assumption)); (first | exact fI rfl | exact fP rfl | exact fS rfl | exact fT rfl))))
  (apply wls; exact st_call rfl ent51 rfl (c47S st _ x (fact N) _ hst (NS.self (fact_fit (by omega)))); rintro _ w2 ⟨rfl, hk⟩; have hp := hp.call hk)
  rw [if_neg (by omega)]
  (repeat (first | (with_reducible first | apply wpl_nil | apply thenQ_n) | (apply wlp; (apply pv_geq <;> exact rfl); exact fB rfl)))
  refine WP_cond_d rfl (fun _ => ?_) (fun h2 => ?_)
  · (repeat (first | (with_reducible first | apply WP_seq | apply WP_region | apply wpl_nil | apply thenQ_n | apply thenQ_ret | apply WP_ret | apply ngQ_ret) | (apply wlp; apply pv_assign; (first | exact fB rfl | exact fS rfl))))
    exact ret_tmp2 rfl rfl rfl ⟨_, rfl, rfl, hp.keeps⟩
  · exfalso
    apply h2
    split <;> omega
theorem p22t (N : Nat) (st : ByteArray) (x : Nat) (w : World) (hst : NS st x) (hfx : Fit x) (hN : N ≤ 40) (hx : x < fact N) : Ret Tryz.prog 22 [.int .i64 (N : Int), .string st] w (fun v w' => ∃ s c, v = .tuple #[.slice s (ordN N x).length c, .bool true] ∧ SVL s c (ordN N x) ∧ Hp w [] w' [ownL eI 3 1 s c (ordN N x)]) := by
  have hwl := wts_len N
  have hil := idn_len N
  refine Ret.of_WP Tryz.func22 rfl Tryz.ntmps22 rfl ?_
  have hp := Hp.start (M := []) (w := w)
  (repeat (first | (with_reducible first | apply WP_seq | apply WP_region | apply wpl_nil | apply thenQ_n | apply WP_scope) | ((first | apply wlp | (apply wlg; exact rfl; exact rfl)); (intros; ((first | apply pv_move | apply pv_assign | exact pv_orF rfl rfl | apply pv_lss | apply pv_gtr) <;> exact rfl)); (intros; (first | exact fI rfl | exact fB rfl | exact fS rfl)))))
  refine WP_cond rfl (fun h1 => ?_) (fun h1 => ?_)
  · exfalso
    simp at h1
    omega
  clear h1
  (repeat (first | (with_reducible first | apply WP_seq | apply WP_region | apply thenQ_n | apply WP_skip) | (apply wlp; apply pv_move; exact fI rfl)))
  (apply wls; exact st_call rfl ent48 rfl (p48 N _ (by omega)); rintro _ w1 ⟨s1, c1, rfl, hv1, hpo⟩; have hp := hp.join hpo; clear hpo)
  obtain ⟨g1, hs1⟩ := hv1.addr (by intro h0; rw [h0] at hwl; simp at hwl)
  subst hs1
  have hlt : N < (wts N).length := by omega
  have hci := own_elem hp 0 rfl hv1 (fun _ => rfl) (wts_get (n := N) (Nat.le_refl N)) 0 _ rfl
  have hci : w1.cell? ⟨g1, 0 + N * 1, none⟩ = some (.string (ofN (fact N))) := hci
  (repeat (first | (with_reducible first | apply WP_seq | apply WP_region | apply wpl_nil | apply thenQ_n) | (apply wlp; ((first | apply pv_move | apply pv_assign | (apply pf_load; exact rfl) | (apply pf_index; exact rfl)) <;> (first | exact rfl | assumption)); (first | exact fI rfl | exact fP rfl | exact fS rfl | exact fT rfl))))
  (apply wls; exact st_call rfl ent51 rfl (c47S st _ x (fact N) _ hst (NS.self (fact_fit (by omega)))); rintro _ w2 ⟨rfl, hk⟩; have hp := hp.call hk)
  rw [if_pos hx]
  (repeat (first | (with_reducible first | apply wpl_nil | apply thenQ_n) | (apply wlp; (apply pv_geq <;> exact rfl); exact fB rfl)))
  refine WP_cond_d rfl (fun h2 => absurd h2 (by decide)) (fun _ => ?_)
  (repeat (first | (with_reducible first | apply WP_seq | apply WP_region | apply thenQ_n | apply WP_skip) | (apply wlp; apply pv_move; exact fI rfl)))
  (apply wls; exact st_call rfl ent40 rfl (p40 N _ (by omega)); rintro _ w3 ⟨g, rfl, hvL, hpo⟩; have hp := hp.join hpo; clear hpo)
  (repeat (first | (with_reducible first | apply WP_seq | apply WP_region | apply wpl_nil | apply thenQ_n) | (apply wlp; (first | apply pv_move | apply pv_assign); (first | exact fI rfl | exact fS rfl))))
  (apply wls; exact sf_make0 eI hp rfl rfl rfl rfl rfl rfl (by omega) rfl; rintro _ w4 ⟨g2, rfl, hvO, hp⟩)
  have hp : Hp w [] w4 [ownL eI 3 1 (some ⟨g2, 0, none⟩) N [], ownL eI 3 1 (some ⟨g, 0, none⟩) N (idn N), ownL eS 53 1 (some ⟨g1, 0, none⟩) c1 (wts N)] := hp
  (repeat (first | (with_reducible first | apply WP_seq | apply WP_block | apply wpl_nil | apply thenQ_n | apply WP_label) | (apply wlp; apply pv_assign; exact fS rfl)))
  refine WP_loopS [1, 4, 5, 7, 8, 9, 10, 11, 12, 13, 33, 34, 35, 36, 37, 38, 39, 40, 41, 42, 43, 44, 45, 46, 47, 48, 49, 50, 51, 52, 53, 54, 55, 56, 57, 58, 59, 60, 61, 62, 63, 64, 65, 66, 67] (fun (S : OS) F => ((F.put 1 (.string S.st)).put 7 (.slice (some ⟨g, 0, none⟩) S.L.length N)).put 8 (.slice S.s S.O.length S.c))
    (fun S w' => S.O ++ dec S.L.length S.L S.x = ordN N x ∧ S.x < fact S.L.length ∧ S.O.length + S.L.length = N ∧ NS S.st S.x ∧ Fit S.x ∧ SVL S.s S.c S.O ∧ Hp w [] w' [ownL eI 3 1 S.s S.c S.O, ownL eI 3 1 (some ⟨g, 0, none⟩) N S.L, ownL eS 53 1 (some ⟨g1, 0, none⟩) c1 (wts N)])
    (fun S => S.L.length) ⟨idn N, [], st, x, some ⟨g2, 0, none⟩, N⟩ (put_self (put_self (put_self (Same.eq .refl) rfl) (by rw [hil]; rfl)) rfl) ⟨by rw [hil]; rfl, by rw [hil]; exact hx, by rw [hil]; simp, hst, hfx, hvO, hp⟩ ?_
  clear hvO hvL hst hfx hci
  (repeat clear hp)
  rintro u ⟨L, O, st, x1, s, c⟩ w5 ⟨hO, hx1, hOL, hst, hfx, hv, hp⟩
  simp only at hO hx1 hOL hst hfx hv hp ⊢
  (repeat (first | (with_reducible first | apply WP_seq | apply WP_region | apply wpl_nil | apply thenQ_n) | (apply wlp; ((first | apply pv_move | (apply pf_len; exact rfl) | apply pv_gtr) <;> exact rfl); (first | exact fI rfl | exact fB rfl | exact fS rfl))))
  refine WP_cond_d rfl (fun h => ?_) (fun h => ?_)
  · obtain ⟨k, hk⟩ : ∃ k, L.length = k + 1 := ⟨L.length - 1, by omega⟩
    have hkw : k < (wts N).length := by omega
    have hck := own_elem hp 2 rfl hv1 (fun _ => rfl) (wts_get (n := N) (i := k) (by omega)) 0 _ rfl
    have hck : w5.cell? ⟨g1, 0 + k * 1, none⟩ = some (.string (ofN (fact k))) := hck
    have hvL : SVL (some ⟨g, 0, none⟩) N L := .inr ⟨g, N, rfl, by omega, by unfold maxLen; omega⟩
    have hfk : Fit (fact k) := fact_fit (by omega)
    have hpk := fact_pos k
    rw [hk] at hO hx1
    rw [fact_succ, Nat.add_mul] at hx1
    (repeat (first | (with_reducible first | apply WP_seq | apply WP_block | apply WP_region | apply thenQ_n | apply WP_skip) | (apply wlp; ((first | apply pv_move | (apply pf_len; exact rfl)) <;> exact rfl); (first | exact fI rfl | exact fS rfl))))
    (apply wlp; (exact pv_sub rfl rfl); exact int_eq (b := ((k : Nat) : Int)) (by rw [i64_in (by omega) (by omega)]; omega))
    (repeat (first | (with_reducible first | apply WP_seq | apply WP_block | apply WP_region | apply wpl_nil | apply thenQ_n) | (apply wlp; ((first | apply pv_move | apply pv_assign | (apply pf_load; exact rfl) | (apply pf_len; exact rfl) | (apply pf_index; exact rfl)) <;> (first | exact rfl | assumption)); (first | exact fI rfl | exact fP rfl | exact fS rfl | exact fT rfl))))
    refine WP_loop2 [1, 7, 8, 10, 11, 12, 13, 44, 45, 46, 47, 48, 49, 50, 51, 52, 53, 54, 55, 56, 57, 58, 59, 60, 61, 62, 63, 64, 65, 66, 67] (fun (i : Nat) (st' : ByteArray) F => (((F.put 44 (.int .i64 (i : Int))).put 1 (.string st')).put 7 (.slice (some ⟨g, 0, none⟩) L.length N)).put 8 (.slice s O.length c))
      (fun i st' w' => i ≤ k + 1 ∧ i * fact k ≤ x1 ∧ NS st' (x1 - i * fact k) ∧ Hp w [] w' [ownL eI 3 1 s c O, ownL eI 3 1 (some ⟨g, 0, none⟩) N L, ownL eS 53 1 (some ⟨g1, 0, none⟩) c1 (wts N)]) (fun i _ => k + 1 - i) 0 st (put_self (put_self (put_self (put_self (Same.eq .refl) rfl) rfl) rfl) rfl) ⟨Nat.zero_le _, by omega, by rw [Nat.zero_mul]; exact hst, hp⟩ ?_
    clear hst hck
    (repeat clear hp)
    rintro u2 i st' w6 ⟨hi, hix, hst, hp⟩
    (repeat (first | (with_reducible first | apply WP_seq | apply WP_region | apply wpl_nil | apply thenQ_n) | (apply wlp; (apply pv_lss <;> exact rfl); exact fB rfl)))
    refine WP_cond_d rfl (fun h3 => ?_) (fun h3 => ?_)
    · have hiL : i < L.length := by omega
      have hgi := List.getElem?_eq_getElem hiL
      generalize L[i] = y at hgi
      have hcy := own_elem hp 1 rfl hvL (fun _ => rfl) hgi 0 _ rfl
      have hcy : w6.cell? ⟨g, 0 + i * 1, none⟩ = some (.int .i64 y) := hcy
      have hf2 : Fit (x1 - i * fact k) := hfx.le (by omega)
      (repeat (first | (with_reducible first | apply WP_seq | apply WP_block | apply WP_region | apply wpl_nil | apply thenQ_n | apply WP_skip) | (apply wlp; ((first | apply pv_move | apply pv_assign | (apply pf_load; exact rfl) | (apply pf_index; exact rfl)) <;> (first | exact rfl | assumption)); (first | exact fI rfl | exact fP rfl | exact fT rfl))))
      (apply wls; exact st_call rfl ent52 rfl (c49S st' _ (x1 - i * fact k) (fact k) _ hst (NS.self hfk) hf2 hfk); rintro _ w7 ⟨rfl, hk7⟩; have hp := hp.call hk7)
      (repeat (first | (with_reducible first | apply WP_seq | apply WP_region | apply wpl_nil | apply thenQ_n) | (apply wlp; ((first | apply pv_move | apply pv_assign | apply pv_not | apply pv_extract) <;> exact rfl); (first | exact fB rfl | exact fT rfl | exact fU rfl))))
      refine WP_cond_nd rfl (fun h4 => ?_) (fun h4 => ?_)
      · have hstep := dec_step (L := L) (y := y) hix (by omega) hgi
        have hel : (L.eraseIdx i).length = k := by rw [List.length_eraseIdx_of_lt hiL]; omega
        (repeat (first | (with_reducible first | apply WP_seq | apply WP_region) | (apply wlp; apply pv_move; (first | exact fI rfl | exact fS rfl))))
        (apply wls; exact sf_slice hp rfl rfl rfl rfl rfl rfl rfl; rintro _ w8 ⟨nb, rfl, hp⟩)
        (apply wls; exact sf_app1 eI O y hp 1 0 rfl rfl rfl rfl rfl rfl (fun _ => rfl) rfl rfl rfl hv rfl rfl (by omega); rintro _ w9 ⟨s', c', rfl, hv', hp⟩)
        have hp : Hp w [] w9 [ownL eI 3 1 s' c' (O ++ [y]), ownL eI 3 1 (some ⟨g, 0, none⟩) N L, ownL eS 53 1 (some ⟨g1, 0, none⟩) c1 (wts N)] := hp.tail
        (repeat (first | (with_reducible first | apply WP_seq | apply WP_region | apply wpl_nil | apply thenQ_n) | (apply wlp; (first | apply pv_move | apply pv_assign); (first | exact fI rfl | exact fS rfl))))
        (apply wlp; (exact pv_add rfl rfl); exact int_eq (b := ((i + 1 : Nat) : Int)) (by rw [i64_in (by omega) (by omega)]; omega))
        (apply wls; exact st_call rfl ent53 rfl (p53 L g N i _ (Hp.rowat hp 1 rfl) (by omega) hiL (by omega)); rintro _ w10 ⟨rfl, hk10, hr10⟩; have hp := Hp.callU hp 1 rfl hk10 hr10)
        (repeat (first | (with_reducible first | apply wpl_nil | apply thenQ_n | apply thenQ_exit | apply WP_exit) | ((with_reducible apply inBlk_same); exact rfl) | ((with_reducible apply inBlk_other); exact rfl) | (apply wlp; apply pv_assign; exact fS rfl)))
        refine ⟨⟨L.eraseIdx i, O ++ [y], st', x1 - i * fact k, s', c'⟩, put_self (put_self (put_self (Same.eq (by repeat (first | exact Same.hav | exact Same.refl | refine Same.put rfl ?_ | refine Same.havs rfl ?_))) rfl) rfl) rfl, ⟨?_, ?_, ?_, hst, hf2, hv', hp⟩, ?_⟩
        · show (O ++ [y]) ++ dec (L.eraseIdx i).length (L.eraseIdx i) (x1 - i * fact k) = _
          rw [hel, List.append_assoc, List.singleton_append, ← hstep, hO]
        · show x1 - i * fact k < fact (L.eraseIdx i).length
          rw [hel]
          omega
        · show (O ++ [y]).length + (L.eraseIdx i).length = N
          rw [hel, List.length_append]
          simp
          omega
        · show (L.eraseIdx i).length < L.length
          omega
      · have e1 : x1 - i * fact k - fact k = x1 - (i + 1) * fact k := by rw [Nat.add_mul]; omega
        have e2 : (i + 1) * fact k ≤ x1 := by rw [Nat.add_mul]; omega
        rw [e1]
        (repeat (first | (with_reducible first | apply WP_region | apply wpl_nil | apply thenQ_n | apply inBlk_n | apply WP_skip) | (apply wlp; (first | apply pv_move | apply pv_assign); exact fT rfl)))
        (apply wlp; (exact pv_add rfl rfl); exact int_eq (b := ((i + 1 : Nat) : Int)) (by rw [i64_in (by omega) (by omega)]; omega))
        (repeat (first | (with_reducible first | apply wpl_nil | apply thenQ_n) | (apply wlp; apply pv_move; exact fI rfl)))
        exact ⟨i + 1, _, put_self (put_self (put_self (put_self (Same.eq (by repeat (first | exact Same.hav | exact Same.refl | refine Same.put rfl ?_ | refine Same.havs rfl ?_))) rfl) rfl) rfl) rfl, ⟨by omega, e2, NS.self (hfx.le (by omega)), hp⟩, by omega⟩
    · exfalso
      obtain rfl : i = k + 1 := by omega
      rw [Nat.add_mul] at hix
      omega
  · have hL : L = [] := List.eq_nil_of_length_eq_zero (by omega)
    subst hL
    have hO : O = ordN N x := by
      rw [← hO]
      show O = O ++ dec 0 [] x1
      rw [dec_zero, List.append_nil]
    subst hO
    (repeat (first | (with_reducible first | apply WP_seq | apply WP_region | apply wpl_nil | apply thenQ_n | apply thenQ_exit | apply WP_ret | apply WP_exit | apply ngQ_ret) | ((with_reducible apply inBlk_same); exact rfl) | (apply wlp; (first | apply pv_move | apply pv_assign); (first | exact fB rfl | exact fS rfl))))
    exact ret_tmp2 rfl rfl rfl ⟨_, rfl, s, c, rfl, hv, hp.pick 0 rfl⟩
end Go.Proofs.YtfjbioghpgmkiaaGreatDoor
/- places.Number; conditions: the list lies in memory. -/
namespace Go.Proofs.YtfjbioghpgmkiaaGreatDoor
open Go.Eng Go.Dig

/-- how many of a list are less -/
def lessC (x : Int) (l : List Int) : Nat := l.countP fun y => decide (y < x)
/-- the number of an order -/
def num : List Int → Nat
  | [] => 0
  | x :: l => lessC x l * fact l.length + num l
theorem lessC_le (x : Int) (l : List Int) : lessC x l ≤ l.length := List.countP_le_length
theorem num_nil : num [] = 0 := rfl
theorem num_cons (x : Int) (l : List Int) : num (x :: l) = lessC x l * fact l.length + num l := rfl
theorem num_lt : ∀ l : List Int, num l < fact l.length
  | [] => by decide
  | x :: l => by
    have h1 := num_lt l
    have h2 : lessC x l * fact l.length ≤ l.length * fact l.length := Nat.mul_le_mul_right _ (lessC_le x l)
    rw [num, List.length_cons, fact_succ, Nat.add_mul]
    omega
theorem lessC_snoc (x y : Int) (l : List Int) : lessC x (l ++ [y]) = lessC x l + (if y < x then 1 else 0) := by
  unfold lessC
  rw [List.countP_append, List.countP_singleton]
  simp
theorem SlAt.dropIf {w : World} {b o c : Nat} {l : List Int} (h : SlAt w 1 eI (some ⟨b, o, none⟩) l) (hc : l.length ≤ c) (k : Nat) : SlAt w 1 eI (some ⟨b, if c = k then o else o + k * 1, none⟩) (l.drop k) := by
  by_cases hk : c = k
  · rw [List.drop_eq_nil_of_le (by omega)]
    exact SlAt_nil
  · rw [if_neg hk]
    exact SlAt.drop h k

attribute [local irreducible] PV StepF wpl wpd WP Ret
attribute [local irreducible] Fit fact idn wts NS num lessC

theorem p21f (l : List Int) (s : Option Addr) (c : Nat) (w : World) (hs : SlAt w 1 eI s l) (hl : l.length ≤ 9223372036854775806) (h : 40 < l.length ∨ isO l.length l = false) :
    Ret Tryz.prog 21 [.slice s l.length c] w (fun v w' => v = .tuple #[.string (ofN 0), .bool false] ∧ Keeps [] w w') := by
  refine Ret.of_WP Tryz.func21 rfl Tryz.ntmps21 rfl ?_
  have hp := Hp.start (M := []) (w := w)
  (repeat (with_reducible first | apply WP_seq | apply WP_region))
  (apply wlp; apply pv_assign; exact fT rfl)
  (apply wlp; apply pv_assign; exact fB rfl)
  (repeat (with_reducible first | apply WP_seq | apply WP_region | apply wpl_nil | apply thenQ_n))
  (apply wlp; apply pv_move; exact fS rfl)
  (apply wlp; ((apply pf_len; exact rfl) <;> exact rfl); exact fI rfl)
  (apply wlp; apply pv_assign; exact fI rfl)
  (repeat (with_reducible first | apply WP_seq | apply WP_region | apply wpl_nil | apply thenQ_n))
  (apply wlp; apply pv_move; exact fI rfl)
  by_cases h40 : 40 < l.length
  · (apply wlp; (exact pv_gtr rfl rfl); exact bool_eq (b := true) (decide_eq_true (by omega)))
    (repeat (first | (with_reducible first | apply wpl_nil | apply thenQ_n) | (apply wlp; (intros; (first | apply pv_move | exact pv_orT rfl)); (intros; exact fB rfl)) | (apply wlpF; exact rfl; exact rfl; exact rfl) | (apply wlpU; exact rfl; exact rfl)))
    refine WP_cond_t rfl ?_
    (repeat (first | (with_reducible first | apply WP_seq | apply WP_region | apply wpl_nil | apply thenQ_n | apply thenQ_ret | apply WP_ret) | (apply wlp; apply pv_assign; (first | exact fB rfl | exact fT rfl))))
    exact ret_tmp2 rfl rfl rfl ⟨_, rfl, rfl, hp.keeps⟩
  (apply wlp; (exact pv_gtr rfl rfl); exact bool_eq (b := false) (decide_eq_false (by omega)))
  (apply wlp; apply pv_move; exact fB rfl)
  ((apply wlpT; exact rfl; exact rfl); (apply pv_move); (intros; exact fS rfl))
  ((apply wlpT; exact rfl; exact rfl); (apply pv_move); (intros; exact fI rfl))
  (apply wlsT; exact rfl; exact rfl; exact st_call rfl ent47 rfl (p47 l.length l s c _ hs (by omega) (by omega)); rintro _ w1 ⟨rfl, hk⟩; have hp := hp.call hk)
  rw [h.resolve_left h40]
  (repeat (first | (with_reducible first | apply wpl_nil | apply thenQ_n) | (apply wlp; (intros; ((first | exact pv_orF rfl rfl | apply pv_not) <;> exact rfl)); (intros; exact fB rfl)) | ((apply wlpT; exact rfl; exact rfl); (((first | exact pv_orF rfl rfl | apply pv_not) <;> exact rfl)); (intros; exact fB rfl)) | (apply wlpF; exact rfl; exact rfl; exact rfl) | (apply wlpU; exact rfl; exact rfl)))
  refine WP_cond_t rfl ?_
  (repeat (first | (with_reducible first | apply WP_seq | apply WP_region | apply wpl_nil | apply thenQ_n | apply thenQ_ret | apply WP_ret) | (apply wlp; apply pv_assign; (first | exact fB rfl | exact fT rfl))))
  exact ret_tmp2 rfl rfl rfl ⟨_, rfl, rfl, hp.keeps⟩
theorem p21t (l : List Int) (s : Option Addr) (c : Nat) (w : World) (hs : SlAt w 1 eI s l) (hl : l.length ≤ 40) (hc : l.length ≤ c) (hO : isO l.length l = true) :
    Ret Tryz.prog 21 [.slice s l.length c] w (fun v w' => v = .tuple #[.string (ofN (num l)), .bool true] ∧ Keeps [] w w') := by
  have hwl := wts_len l.length
  have hnl := num_lt l
  have hfn : Fit (num l) := (fact_fit (n := l.length) (by omega)).le (by omega)
  refine Ret.of_WP Tryz.func21 rfl Tryz.ntmps21 rfl ?_
  have hp := Hp.start (M := []) (w := w)
  (repeat (with_reducible first | apply WP_seq | apply WP_region))
  (apply wlp; apply pv_assign; exact fT rfl)
  (apply wlp; apply pv_assign; exact fB rfl)
  (repeat (with_reducible first | apply WP_seq | apply WP_region | apply wpl_nil | apply thenQ_n))
  (apply wlp; apply pv_move; exact fS rfl)
  (apply wlp; ((apply pf_len; exact rfl) <;> exact rfl); exact fI rfl)
  (apply wlp; apply pv_assign; exact fI rfl)
  (repeat (with_reducible first | apply WP_seq | apply WP_region | apply wpl_nil | apply thenQ_n))
  (apply wlp; apply pv_move; exact fI rfl)
  (apply wlp; (exact pv_gtr rfl rfl); exact bool_eq (b := false) (decide_eq_false (by omega)))
  (apply wlp; apply pv_move; exact fB rfl)
  ((apply wlpT; exact rfl; exact rfl); (apply pv_move); (intros; exact fS rfl))
  ((apply wlpT; exact rfl; exact rfl); (apply pv_move); (intros; exact fI rfl))
  (apply wlsT; exact rfl; exact rfl; exact st_call rfl ent47 rfl (p47 l.length l s c _ hs (by omega) (by omega)); rintro _ w1 ⟨rfl, hk⟩; have hp := hp.call hk)
  rw [hO]
  (repeat (first | (with_reducible first | apply wpl_nil | apply thenQ_n) | (apply wlp; (intros; ((first | exact pv_orF rfl rfl | apply pv_not) <;> exact rfl)); (intros; exact fB rfl)) | ((apply wlpT; exact rfl; exact rfl); (((first | exact pv_orF rfl rfl | apply pv_not) <;> exact rfl)); (intros; exact fB rfl)) | (apply wlpF; exact rfl; exact rfl; exact rfl) | (apply wlpU; exact rfl; exact rfl)))
  refine WP_cond_f rfl ?_
  (repeat (first | (with_reducible first | apply WP_seq | apply WP_region | apply thenQ_n | apply WP_skip) | (apply wlp; apply pv_move; exact fI rfl)))
  (apply wls; exact st_call rfl ent48 rfl (p48 l.length _ hl); rintro _ w2 ⟨s1, c1, rfl, hv1, hpo⟩; have hp := hp.join hpo; clear hpo)
  obtain ⟨g1, hs1⟩ := hv1.addr (by intro h0; rw [h0] at hwl; simp at hwl)
  subst hs1
  (repeat (first | (with_reducible first | apply WP_seq | apply WP_region | apply wpl_nil | apply thenQ_n) | (apply wlp; apply pv_assign; exact fS rfl)))
  (apply wls; exact st_call rfl ent43 rfl (c13 0 _ (by decide)); rintro _ w3 ⟨rfl, hk⟩; have hp := hp.call hk)
  have hp : Hp w [] w3 [ownL eS 53 1 (some ⟨g1, 0, none⟩) c1 (wts l.length)] := hp
  (repeat (first | (with_reducible first | apply WP_seq | apply WP_block | apply WP_region | apply wpl_nil | apply thenQ_n) | (apply wlp; ((first | apply pv_move | apply pv_assign | (apply pf_len; exact rfl)) <;> exact rfl); (first | exact fI rfl | exact fS rfl | exact fT rfl))))
  refine WP_loop2 [6, 7, 8, 9, 11, 27, 28, 29, 30, 31, 32, 33, 34, 35, 36, 37, 38, 39, 40, 41, 42, 43, 44, 45, 46, 47, 48, 49, 50, 51, 52, 53, 54, 55, 56, 57, 58, 59] (fun (i A : Nat) F => (F.put 27 (.int .i64 (i : Int))).put 6 (.string (ofN A)))
    (fun i A w' => i ≤ l.length ∧ A + num (l.drop i) = num l ∧ Hp w [] w' [ownL eS 53 1 (some ⟨g1, 0, none⟩) c1 (wts l.length)]) (fun i _ => l.length - i) 0 0 (put_self (put_self (Same.eq .refl) rfl) rfl) ⟨Nat.zero_le _, by simp, hp⟩ ?_
  (repeat clear hp)
  rintro u i A w4 ⟨hi, hA, hp⟩
  (repeat (first | (with_reducible first | apply WP_seq | apply WP_region | apply wpl_nil | apply thenQ_n) | (apply wlp; (apply pv_lss <;> exact rfl); exact fB rfl)))
  refine WP_cond_d rfl (fun h => ?_) (fun h => ?_)
  · have hlt : i < l.length := by omega
    obtain ⟨b0, o0, hs0, hc0⟩ := hs.base (by omega)
    subst hs0
    have hci := hc0 i _ (List.getElem?_eq_getElem hlt) 0 _ rfl
    have hdr : l.drop i = l[i] :: l.drop (i + 1) := List.drop_eq_getElem_cons hlt
    have hsub := SlAt.dropIf hs hc (i + 1)
    have hdl : (l.drop (i + 1)).length = l.length - (i + 1) := List.length_drop
    generalize l[i] = x at hci hdr
    have hci : w.cell? ⟨b0, o0 + i * 1, none⟩ = some (.int .i64 x) := hci
    obtain ⟨ad, had⟩ : ∃ ad, ad = (some ⟨b0, if c = i + 1 then o0 else o0 + (i + 1) * 1, none⟩ : Option Addr) := ⟨_, rfl⟩
    rw [← had] at hsub
    have hsl : Value.slice (some ⟨b0, if c = i + 1 then o0 else o0 + (i + 1) * 1, none⟩) (l.length - (i + 1)) (c - (i + 1)) = .slice ad (l.drop (i + 1)).length (c - (i + 1)) := by rw [had, hdl]
    have hnum : num (l.drop i) = lessC x (l.drop (i + 1)) * fact (l.drop (i + 1)).length + num (l.drop (i + 1)) := by rw [hdr, num_cons]
    have hle := lessC_le x (l.drop (i + 1))
    generalize hD : l.drop (i + 1) = D at *
    (repeat (first | (with_reducible first | apply WP_seq | apply WP_block | apply WP_region | apply wpl_nil | apply thenQ_n | apply WP_skip) | (apply wlp; ((first | apply pv_move | apply pv_assign | (apply pf_load; exact rfl) | (apply pf_index; exact rfl)) <;> (first | exact rfl | assumption | exact hp.old0 (by assumption))); (first | exact fI rfl | exact fP rfl | exact fS rfl))))
    (apply wlp; (exact pv_add rfl rfl); exact int_eq (b := ((i + 1 : Nat) : Int)) (by rw [i64_in (by omega) (by omega)]; omega))
    (apply wlp; exact pv_sliceLo sl30.1 sl30.2 rfl rfl (by omega) hc; exact hsl)
    (repeat (first | (with_reducible first | apply WP_block | apply wpl_nil | apply thenQ_n) | (apply wlp; ((first | apply pv_move | (apply pf_len; exact rfl)) <;> exact rfl); exact fI rfl)))
    refine WP_loopS [9, 11, 37, 38, 39, 40, 41, 42, 43, 44, 45, 46] (fun (j : Nat) F => (F.put 37 (.int .i64 (j : Int))).put 9 (.int .i64 ((lessC x (D.take j) : Nat) : Int))) (fun j w' => j ≤ D.length ∧ Hp w [] w' [ownL eS 53 1 (some ⟨g1, 0, none⟩) c1 (wts l.length)]) (fun j => D.length - j) 0 (put_self (put_self (Same.eq .refl) rfl) (by unfold lessC; rfl)) ⟨Nat.zero_le _, hp⟩ ?_
    (repeat clear hp)
    rintro u2 j w5 ⟨hj, hp⟩
    (repeat (first | (with_reducible first | apply WP_seq | apply WP_region | apply wpl_nil | apply thenQ_n) | (apply wlp; (apply pv_lss <;> exact rfl); exact fB rfl)))
    refine WP_cond_d rfl (fun h3 => ?_) (fun h3 => ?_)
    · have hjl : j < D.length := by omega
      obtain ⟨b1, o1, hs1, hc1⟩ := hsub.base (by omega)
      have hcj := hc1 j _ (List.getElem?_eq_getElem hjl) 0 _ rfl
      have htk := List.take_succ_eq_append_getElem hjl
      generalize D[j] = y at hcj htk
      have hcj : w.cell? ⟨b1, o1 + j * 1, none⟩ = some (.int .i64 y) := hcj
      have hsn := lessC_snoc x y (D.take j)
      rw [← htk] at hsn
      have hll := lessC_le x (D.take j)
      rw [List.length_take] at hll
      (repeat (first | (with_reducible first | apply WP_seq | apply WP_block | apply WP_region | apply wpl_nil | apply thenQ_n | apply WP_skip) | (apply wlp; ((first | apply pv_move | apply pv_assign | (apply pf_load; exact rfl) | apply pv_lss | (apply pf_index; exact rfl)) <;> (first | exact rfl | assumption | exact hp.old0 (by assumption))); (first | exact fI rfl | exact fB rfl | exact fP rfl))))
      refine WP_cond_d rfl (fun h4 => ?_) (fun h4 => ?_)
      · rw [if_pos h4] at hsn
        (repeat (first | with_reducible apply WP_region | (apply wlp; apply pv_move; exact fI rfl)))
        (apply wlp; exact pv_add rfl rfl; exact int_eq (i64_in (by omega) (by omega)))
        (repeat (first | (with_reducible first | apply WP_region | apply wpl_nil | apply thenQ_n | apply inBlk_n) | (apply wlp; apply pv_assign; exact fI rfl)))
        (apply wlp; (exact pv_add rfl rfl); exact int_eq (b := ((j + 1 : Nat) : Int)) (by rw [i64_in (by omega) (by omega)]; omega))
        (repeat (first | (with_reducible first | apply wpl_nil | apply thenQ_n) | (apply wlp; apply pv_move; exact fI rfl)))
        exact ⟨j + 1, put_self (put_self (Same.eq (by repeat (first | exact Same.hav | exact Same.refl | refine Same.put rfl ?_ | refine Same.havs rfl ?_))) rfl) (int_eq (by rw [hsn]; rfl)), ⟨by omega, hp⟩, by omega⟩
      · rw [if_neg h4] at hsn
        (repeat (with_reducible first | apply WP_region | apply thenQ_n | apply inBlk_n | apply WP_skip))
        (apply wlp; (exact pv_add rfl rfl); exact int_eq (b := ((j + 1 : Nat) : Int)) (by rw [i64_in (by omega) (by omega)]; omega))
        (repeat (first | (with_reducible first | apply wpl_nil | apply thenQ_n) | (apply wlp; apply pv_move; exact fI rfl)))
        exact ⟨j + 1, put_self (put_self (Same.eq (by repeat (first | exact Same.hav | exact Same.refl | refine Same.put rfl ?_ | refine Same.havs rfl ?_))) rfl) (int_eq (by rw [hsn]; rfl)), ⟨by omega, hp⟩, by omega⟩
    · have e : D.take j = D := List.take_of_length_le (by omega)
      rw [e]
      have hfw : Fit (fact D.length) := fact_fit (by omega)
      have hfm : Fit (lessC x D * fact D.length) := hfn.le (by omega)
      have hfA : Fit A := hfn.le (by omega)
      have hgw := wts_get (n := l.length) (i := D.length) (by omega)
      have hdw : D.length < (wts l.length).length := by omega
      (repeat (first | (with_reducible first | apply thenQ_n | apply thenQ_exit | apply WP_exit) | ((with_reducible apply inBlk_same); exact rfl)))
      refine WP_draw mixed (by kernel_rfl) (fun w' => Hp _ _ w' _) hp.drew ?_
      have hp := hp.drew
      (repeat ((apply wdp; exact rfl); (intro w hp; intros; apply pv_move); (intros; (first | exact fI rfl | exact fT rfl))))
      (apply wds; exact rfl; exact st_call rfl ent43 rfl (c13 ((lessC x D : Nat) : Int) _ (by omega)); rintro _ w6 ⟨rfl, hk⟩; have hp := hp.call hk; refine ⟨hp, ?_⟩)
      rw [Int.toNat_natCast]
      (repeat ((apply wdp; exact rfl); (intro w hp; intros; apply pv_move); (intros; (first | exact fI rfl | exact fS rfl))))
      (apply wdp; exact rfl; (intro w hp; exact pv_sub rfl rfl); exact int_eq (b := ((l.length - 1 : Nat) : Int)) (by rw [i64_in (by omega) (by omega)]; omega))
      (repeat ((apply wdp; exact rfl); (intro w hp; intros; apply pv_move); (intros; exact fI rfl)))
      (apply wdp; exact rfl; (intro w hp; exact pv_sub rfl rfl); exact int_eq (b := ((D.length : Nat) : Int)) (by rw [i64_in (by omega) (by omega)]; omega))
      (repeat ((apply wdp; exact rfl); (intro w hp; intros; ((first | (apply pf_load; exact rfl) | (apply pf_index; exact rfl)) <;> (first | exact rfl | assumption))); (intros; exact fP rfl)))
      (apply wdp; exact rfl; (intro w hp; exact pf_load rfl rfl (own_elem hp 0 rfl hv1 (fun _ => rfl) hgw 0 _ rfl)); exact fT rfl)
      (apply wds; exact rfl; exact st_call rfl ent50 rfl (c18 (lessC x D) (fact D.length) _ (Fit.small (by omega)) hfw); rintro _ w7 ⟨rfl, hk⟩; have hp := hp.call hk; refine ⟨hp, ?_⟩)
      (apply wds; exact rfl; exact st_call rfl ent49 rfl (c17 A (lessC x D * fact D.length) _ hfA hfm); rintro _ w8 ⟨rfl, hk⟩; have hp := hp.call hk; refine ⟨hp, ?_⟩)
      (repeat ((apply wdp; exact rfl); (intro w hp; intros; apply pv_assign); (intros; exact fT rfl)))
      refine wpd_nil ?_
      (repeat (with_reducible first | apply WP_region | apply thenQ_n | apply inBlk_n))
      (apply wlp; (exact pv_add rfl rfl); exact int_eq (b := ((i + 1 : Nat) : Int)) (by rw [i64_in (by omega) (by omega)]; omega))
      (repeat (first | (with_reducible first | apply wpl_nil | apply thenQ_n) | (apply wlp; apply pv_move; exact fI rfl)))
      exact ⟨i + 1, A + lessC x D * fact D.length, put_self (put_self (Same.eq (by repeat (first | exact Same.hav | exact Same.refl | refine Same.put rfl ?_ | refine Same.havs rfl ?_))) rfl) rfl, ⟨by omega, by rw [hD]; omega, hp⟩, by omega⟩
  · have hA : A = num l := by
      rw [List.drop_eq_nil_of_le (by omega)] at hA
      rw [num_nil] at hA
      exact hA
    subst hA
    (repeat (first | (with_reducible first | apply WP_seq | apply WP_region | apply wpl_nil | apply thenQ_n | apply thenQ_exit | apply WP_ret | apply WP_exit) | ((with_reducible apply inBlk_same); exact rfl) | (apply wlp; (first | apply pv_move | apply pv_assign); (first | exact fB rfl | exact fT rfl))))
    exact ret_tmp2 rfl rfl rfl ⟨_, rfl, rfl, hp.keeps⟩
end Go.Proofs.YtfjbioghpgmkiaaGreatDoor
/- sortesref19: Factorial, Order; conditions: small numbers. -/
namespace Go.Proofs.YtfjbioghpgmkiaaGreatDoor
open Go.Eng Go.Dig

def bump (d : Int) (j : Int) : Int := if d ≤ j then j + 1 else j
/-- the order by the digits to the bases 1, 2, 3, .. -/
def rfO : Nat → Nat → List Int
  | 0, _ => []
  | k + 1, x => ((x / fact k % (k + 1) : Nat) : Int) :: (rfO k x).map (bump ((x / fact k % (k + 1) : Nat) : Int))
theorem rfO_zero (x : Nat) : rfO 0 x = [] := rfl
theorem rfO_succ (k x : Nat) : rfO (k + 1) x = ((x / fact k % (k + 1) : Nat) : Int) :: (rfO k x).map (bump ((x / fact k % (k + 1) : Nat) : Int)) := rfl
theorem rfO_len : ∀ k x, (rfO k x).length = k
  | 0, _ => rfl
  | k + 1, x => by rw [rfO_succ, List.length_cons, List.length_map, rfO_len k]
theorem rfO_bd : ∀ k x, ∀ y ∈ rfO k x, 0 ≤ y ∧ y < k
  | 0, _ => by intro y hy; cases hy
  | k + 1, x => by
    intro y hy
    rw [rfO_succ, List.mem_cons, List.mem_map] at hy
    have hm := Nat.mod_lt (x / fact k) (show 0 < k + 1 by omega)
    rcases hy with rfl | ⟨z, hz, rfl⟩
    · omega
    · have := rfO_bd k x z hz
      unfold bump
      split <;> omega
theorem mset {f : Int → Int} {O : List Int} {j : Nat} (h : j < O.length) : ((O.take j).map f ++ O.drop j).set j (f O[j]) = (O.take (j + 1)).map f ++ O.drop (j + 1) := by
  rw [List.set_append_right _ _ (by simp; omega), List.take_succ_eq_append_getElem h, List.map_append, List.append_assoc, List.length_map, List.length_take, Nat.min_eq_left (by omega), Nat.sub_self]
  congr 1
  rw [List.drop_eq_getElem_cons h]
  rfl
theorem mget {f : Int → Int} {O : List Int} {j : Nat} (h : j < O.length) : ((O.take j).map f ++ O.drop j)[j]? = some O[j] := by
  rw [List.getElem?_append_right (by simp; omega), List.length_map, List.length_take, Nat.min_eq_left (by omega), Nat.sub_self, List.drop_eq_getElem_cons h]
  rfl
theorem msame {f : Int → Int} {O : List Int} {j : Nat} (h : j < O.length) (hf : f O[j] = O[j]) : (O.take j).map f ++ O.drop j = (O.take (j + 1)).map f ++ O.drop (j + 1) := by
  rw [List.take_succ_eq_append_getElem h, List.map_append, List.append_assoc]
  congr 1
  rw [List.drop_eq_getElem_cons h]
  simp [hf]
theorem mlen {f : Int → Int} {O : List Int} {j : Nat} : ((O.take j).map f ++ O.drop j).length = O.length := by
  rw [List.length_append, List.length_map, ← List.length_append, List.take_append_drop]

attribute [local irreducible] PV StepF wpl wpd WP Ret
attribute [local irreducible] Fit fact NS rfO

theorem p26 (n : Nat) (w : World) (hn : n ≤ 41) : Ret Tryz.prog 26 [.int .i64 (n : Int)] w (fun v w' => v = .string (ofN (fact n)) ∧ Keeps [] w w') := by
  have hf0 : fact 0 = 1 := by unfold fact; rfl
  have hf1 : fact (0 + 1) = 1 := by rw [fact_succ, hf0]
  refine Ret.of_WP Tryz.func26 rfl Tryz.ntmps26 rfl ?_
  have hp := Hp.start (M := []) (w := w)
  (repeat (first | (with_reducible first | apply WP_seq | apply WP_region | apply wpl_nil | apply thenQ_n) | (apply wlp; apply pv_assign; exact fT rfl)))
  (apply wls; exact st_call rfl ent37 rfl (c40 1 _ (by decide)); rintro _ w1 ⟨rfl, hk⟩; have hp := hp.call hk)
  (repeat (first | (with_reducible first | apply WP_seq | apply WP_block | apply WP_region | apply wpl_nil | apply thenQ_n) | (apply wlp; apply pv_assign; (first | exact fI rfl | exact fT rfl))))
  refine WP_loopS [3, 4, 6, 7, 8, 9, 10, 11, 12, 13, 14] (fun (i : Nat) F => (F.put 4 (.int .i64 ((i + 2 : Nat) : Int))).put 3 (.string (ofN (fact (i + 1))))) (fun i w' => (i + 1 ≤ n ∨ i = 0) ∧ Hp w [] w' []) (fun i => n - i) 0 (put_self (put_self (Same.eq .refl) rfl) (by rw [hf1]; rfl)) ⟨.inr rfl, hp⟩ ?_
  (repeat clear hp)
  rintro u i w2 ⟨hi, hp⟩
  (repeat (first | (with_reducible first | apply WP_seq | apply WP_region | apply wpl_nil | apply thenQ_n) | (apply wlp; ((first | apply pv_move | apply pv_leq) <;> exact rfl); (first | exact fI rfl | exact fB rfl))))
  refine WP_cond_d rfl (fun h => ?_) (fun h => ?_)
  · have hfs : fact (i + 1) * (i + 2) = fact (i + 1 + 1) := by rw [fact_succ (i + 1), Nat.mul_comm]
    (repeat (first | (with_reducible first | apply WP_seq | apply WP_block | apply WP_region | apply thenQ_n | apply WP_skip) | (apply wlp; apply pv_move; (first | exact fI rfl | exact fT rfl))))
    (apply wls; exact st_call rfl ent37 rfl (c40 ((i + 2 : Nat) : Int) _ (by omega)); rintro _ w3 ⟨rfl, hk⟩; have hp := hp.call hk)
    rw [Int.toNat_natCast]
    (apply wls; exact st_call rfl ent36 rfl (c43 (fact (i + 1)) (i + 2) _ (fact_fit (by omega)) (Fit.small (by omega))); rintro _ w4 ⟨rfl, hk⟩; have hp := hp.call hk)
    rw [hfs]
    (repeat (first | (with_reducible first | apply WP_region | apply wpl_nil | apply thenQ_n | apply inBlk_n) | (apply wlp; (first | apply pv_move | apply pv_assign); (first | exact fI rfl | exact fT rfl))))
    (apply wlp; exact pv_add rfl rfl; exact int_eq (i64_in (by omega) (by omega)))
    (repeat (first | (with_reducible first | apply wpl_nil | apply thenQ_n) | (apply wlp; apply pv_assign; exact fI rfl)))
    exact ⟨i + 1, put_self (put_self (Same.eq (by repeat (first | exact Same.hav | exact Same.refl | refine Same.put rfl ?_ | refine Same.havs rfl ?_))) (int_eq (by omega))) rfl, ⟨by omega, hp⟩, by omega⟩
  · have e : fact (i + 1) = fact n := by
      rcases Nat.eq_zero_or_pos n with h0 | h0
      · obtain rfl : i = 0 := by omega
        rw [h0, hf1, hf0]
      · congr 1
        omega
    rw [e]
    (repeat (first | (with_reducible first | apply WP_seq | apply WP_region | apply wpl_nil | apply thenQ_n | apply thenQ_exit | apply WP_ret | apply WP_exit) | ((with_reducible apply inBlk_same); exact rfl) | (apply wlp; (first | apply pv_move | apply pv_assign); exact fT rfl)))
    exact ret_tmp rfl rfl ⟨_, rfl, rfl, hp.keeps⟩
theorem p29f (n : Int) (st : ByteArray) (x : Nat) (w : World) (hst : NS st x) (h : n < 0 ∨ 40 < n ∨ fact n.toNat ≤ x) : Ret Tryz.prog 29 [.int .i64 n, .string st] w (fun v w' => v = .tuple #[.slice none 0 0, .bool false] ∧ Keeps [] w w') := by
  refine Ret.of_WP Tryz.func29 rfl Tryz.ntmps29 rfl ?_
  have hp := Hp.start (M := []) (w := w)
  (repeat (with_reducible first | apply WP_seq | apply WP_region))
  (apply wlp; apply pv_assign; exact fS rfl)
  (apply wlp; apply pv_assign; exact fB rfl)
  (repeat (with_reducible first | apply WP_seq | apply WP_region | apply wpl_nil | apply thenQ_n))
  (apply wlp; apply pv_move; exact fI rfl)
  by_cases h0 : n < 0
  · (apply wlp; (exact pv_lss rfl rfl); exact bool_eq (b := true) (decide_eq_true (by omega)))
    (repeat (first | (with_reducible first | apply wpl_nil | apply thenQ_n) | (apply wlp; (intros; (first | apply pv_move | exact pv_orT rfl)); (intros; exact fB rfl)) | (apply wlpF; exact rfl; exact rfl; exact rfl) | (apply wlpU; exact rfl; exact rfl)))
    refine WP_cond_t rfl ?_
    (repeat (first | (with_reducible first | apply WP_seq | apply WP_region | apply wpl_nil | apply thenQ_n | apply thenQ_ret | apply WP_ret) | (apply wlp; apply pv_assign; (first | exact fB rfl | exact fS rfl))))
    exact ret_tmp2 rfl rfl rfl ⟨_, rfl, rfl, hp.keeps⟩
  (apply wlp; (exact pv_lss rfl rfl); exact bool_eq (b := false) (decide_eq_false (by omega)))
  (apply wlp; apply pv_move; exact fB rfl)
  ((apply wlpT; exact rfl; exact rfl); (apply pv_move); (intros; exact fI rfl))
  by_cases h1 : 40 < n
  · (apply wlpT; exact rfl; exact rfl; (exact pv_gtr rfl rfl); exact bool_eq (b := true) (decide_eq_true (by omega)))
    (repeat (first | (with_reducible first | apply wpl_nil | apply thenQ_n) | (apply wlp; (intros; (first | apply pv_move | exact pv_orT rfl | exact pv_orF rfl rfl)); (intros; exact fB rfl)) | (apply wlpF; exact rfl; exact rfl; exact rfl) | (apply wlpU; exact rfl; exact rfl)))
    refine WP_cond_t rfl ?_
    (repeat (first | (with_reducible first | apply WP_seq | apply WP_region | apply wpl_nil | apply thenQ_n | apply thenQ_ret | apply WP_ret) | (apply wlp; apply pv_assign; (first | exact fB rfl | exact fS rfl))))
    exact ret_tmp2 rfl rfl rfl ⟨_, rfl, rfl, hp.keeps⟩
  (apply wlpT; exact rfl; exact rfl; (exact pv_gtr rfl rfl); exact bool_eq (b := false) (decide_eq_false (by omega)))
  obtain ⟨N, rfl⟩ : ∃ N : Nat, n = N := ⟨n.toNat, by omega⟩
  rw [Int.toNat_natCast] at h
  have hx : fact N ≤ x := by omega
  (repeat (first | (apply wlp; (intros; (first | apply pv_move | exact pv_orF rfl rfl)); (intros; (first | exact fI rfl | exact fB rfl | exact fT rfl))) | ((apply wlpT; exact rfl; exact rfl); ((first | apply pv_move | exact pv_orF rfl rfl)); (intros; (first | exact fI rfl | exact fB rfl | exact fT rfl))) | (apply wlpF; exact rfl; exact rfl; exact rfl) | (apply wlpU; exact rfl; exact rfl)))
  (apply wlsT; exact rfl; exact rfl; exact st_call rfl ent26 rfl (p26 N _ (by omega)); rintro _ w1 ⟨rfl, hk⟩; have hp := hp.call hk)
  (apply wlsT; exact rfl; exact rfl; exact st_call rfl ent25 rfl (c50S st _ x (fact N) _ hst (NS.self (fact_fit (by omega)))); rintro _ w2 ⟨rfl, hk⟩; have hp := hp.call hk)
  rw [if_neg (by omega)]
  (apply wlpT; exact rfl; exact rfl; exact pv_geq rfl rfl; exact bool_eq (b := true) (decide_eq_true (by split <;> decide)))
  (repeat (first | (with_reducible first | apply wpl_nil | apply thenQ_n) | (apply wlp; (intros; exact pv_orF rfl rfl); (intros; exact fB rfl)) | (apply wlpF; exact rfl; exact rfl; exact rfl) | (apply wlpU; exact rfl; exact rfl)))
  refine WP_cond_t rfl ?_
  (repeat (first | (with_reducible first | apply WP_seq | apply WP_region | apply wpl_nil | apply thenQ_n | apply thenQ_ret | apply WP_ret) | (apply wlp; apply pv_assign; (first | exact fB rfl | exact fS rfl))))
  exact ret_tmp2 rfl rfl rfl ⟨_, rfl, rfl, hp.keeps⟩
theorem p29t (N : Nat) (st : ByteArray) (x : Nat) (w : World) (hst : NS st x) (hfx : Fit x) (hN : N ≤ 40) (hx : x < fact N) : Ret Tryz.prog 29 [.int .i64 (N : Int), .string st] w (fun v w' => ∃ s c, v = .tuple #[.slice s (rfO N x).length c, .bool true] ∧ SVL s c (rfO N x) ∧ Hp w [] w' [ownL eI 3 1 s c (rfO N x)]) := by
  refine Ret.of_WP Tryz.func29 rfl Tryz.ntmps29 rfl ?_
  have hp := (Hp.start (M := []) (w := w)).nilL eI 3 1
  (repeat (with_reducible first | apply WP_seq | apply WP_region))
  (apply wlp; apply pv_assign; exact fS rfl)
  (apply wlp; apply pv_assign; exact fB rfl)
  (repeat (with_reducible first | apply WP_seq | apply WP_region | apply wpl_nil | apply thenQ_n))
  (apply wlp; apply pv_move; exact fI rfl)
  (apply wlp; (exact pv_lss rfl rfl); exact bool_eq (b := false) (decide_eq_false (by omega)))
  (apply wlp; apply pv_move; exact fB rfl)
  ((apply wlpT; exact rfl; exact rfl); (apply pv_move); (intros; exact fI rfl))
  (apply wlpT; exact rfl; exact rfl; (exact pv_gtr rfl rfl); exact bool_eq (b := false) (decide_eq_false (by omega)))
  (repeat (first | (apply wlp; (intros; (first | apply pv_move | exact pv_orF rfl rfl)); (intros; (first | exact fI rfl | exact fB rfl | exact fT rfl))) | ((apply wlpT; exact rfl; exact rfl); ((first | apply pv_move | exact pv_orF rfl rfl)); (intros; (first | exact fI rfl | exact fB rfl | exact fT rfl))) | (apply wlpF; exact rfl; exact rfl; exact rfl) | (apply wlpU; exact rfl; exact rfl)))
  (apply wlsT; exact rfl; exact rfl; exact st_call rfl ent26 rfl (p26 N _ (by omega)); rintro _ w1 ⟨rfl, hk⟩; have hp := hp.call hk)
  (apply wlsT; exact rfl; exact rfl; exact st_call rfl ent25 rfl (c50S st _ x (fact N) _ hst (NS.self (fact_fit (by omega)))); rintro _ w2 ⟨rfl, hk⟩; have hp := hp.call hk)
  rw [if_pos hx]
  (repeat (first | (with_reducible first | apply wpl_nil | apply thenQ_n) | (apply wlp; (intros; ((first | exact pv_orF rfl rfl | apply pv_geq) <;> exact rfl)); (intros; exact fB rfl)) | ((apply wlpT; exact rfl; exact rfl); (((first | exact pv_orF rfl rfl | apply pv_geq) <;> exact rfl)); (intros; exact fB rfl)) | (apply wlpF; exact rfl; exact rfl; exact rfl) | (apply wlpU; exact rfl; exact rfl)))
  refine WP_cond_f rfl ?_
  (repeat (first | (with_reducible first | apply WP_seq | apply WP_block | apply WP_region | apply wpl_nil | apply thenQ_n | apply WP_skip) | (apply wlp; apply pv_assign; (first | exact fI rfl | exact fS rfl))))
  refine WP_loop4 [1, 6, 7, 8, 9, 10, 11, 12, 13, 27, 28, 29, 30, 31, 32, 33, 34, 35, 36, 37, 38, 39, 40, 41, 42, 43, 44, 45, 46, 47, 48, 49, 50, 51, 52, 53, 54, 55, 56, 57, 58, 59, 60, 61, 62, 63, 64, 65, 66, 67, 68, 69] (fun (i : Nat) (st' : ByteArray) (s : Option Addr) (c : Nat) F => ((F.put 7 (.int .i64 ((i + 1 : Nat) : Int))).put 1 (.string st')).put 6 (.slice s (rfO i x).length c))
    (fun i st' s c w' => i ≤ N ∧ NS st' (x / fact i) ∧ SVL s c (rfO i x) ∧ Hp w [] w' [ownL eI 3 1 s c (rfO i x)]) (fun i _ _ _ => N - i) 0 st none 0 (put_self (put_self (put_self (Same.eq .refl) rfl) rfl) (by rw [rfO_zero]; rfl)) ⟨Nat.zero_le _, by rw [show fact 0 = 1 by unfold fact; rfl, Nat.div_one]; exact hst, by rw [rfO_zero]; exact SVL.nil, by rw [rfO_zero]; exact hp⟩ ?_
  clear hst
  (repeat clear hp)
  rintro u i st' s c w3 ⟨hi, hst, hv, hp⟩
  (repeat (first | (with_reducible first | apply WP_seq | apply WP_region | apply wpl_nil | apply thenQ_n) | (apply wlp; ((first | apply pv_move | apply pv_leq) <;> exact rfl); (first | exact fI rfl | exact fB rfl))))
  refine WP_cond_d rfl (fun h => ?_) (fun h => ?_)
  · have hOl := rfO_len i x
    have hOb := rfO_bd i x
    have hs1 := rfO_succ i x
    have hdiv : x / fact i / (i + 1) = x / fact (i + 1) := by rw [Nat.div_div_eq_div_mul, fact_succ, Nat.mul_comm]
    have hdl := Nat.mod_lt (x / fact i) (show 0 < i + 1 by omega)
    have hfi : Fit (x / fact i) := hfx.div
    generalize x / fact i = X at *
    obtain ⟨d, hd⟩ : ∃ d, d = X % (i + 1) := ⟨_, rfl⟩
    rw [← hd] at hs1 hdl
    generalize rfO i x = O at *
    have hd7 : (digs 256 d).length ≤ 7 := len_of_lt (by decide) (by show d < 256 ^ 7; omega)
    (repeat (first | (with_reducible first | apply WP_seq | apply WP_block | apply WP_region | apply thenQ_n | apply WP_skip) | (apply wlp; apply pv_move; (first | exact fI rfl | exact fT rfl))))
    (apply wls; exact st_call rfl ent37 rfl (c40 ((i + 1 : Nat) : Int) _ (by omega)); rintro _ w4 ⟨rfl, hk⟩; have hp := hp.call hk)
    rw [Int.toNat_natCast]
    (apply wls; exact st_call rfl ent28 rfl (c92S st' X (i + 1) _ hst hfi (Fit.small (by omega)) (by omega)); rintro _ w5 ⟨rfl, hk⟩; have hp := hp.call hk)
    rw [← hd, hdiv]
    (repeat (first | (with_reducible first | apply WP_seq | apply WP_region | apply wpl_nil | apply thenQ_n) | (apply wlp; ((first | apply pv_move | apply pv_assign | apply pv_extract) <;> exact rfl); (first | exact fB rfl | exact fT rfl | exact fU rfl))))
    (apply wls; exact st_call rfl ent66 rfl (c88 d _ hd7 (Fit.small (by omega))); rintro _ w6 ⟨rfl, hk⟩; have hp := hp.call hk)
    have hp : Hp w [] w6 [ownL eI 3 1 s c O] := hp
    (repeat (first | (with_reducible first | apply WP_seq | apply WP_block | apply WP_region | apply wpl_nil | apply thenQ_n) | (apply wlp; ((first | apply pv_move | apply pv_assign | apply pv_extract) <;> exact rfl); (first | exact fI rfl | exact fB rfl | exact fU rfl))))
    refine WP_loop2 [13, 45, 46, 47, 48, 49, 50, 51, 52, 53, 54, 55, 56, 57, 58, 59, 60, 61, 62, 63, 64] (fun (j : Nat) (z : List Int) F => F.put 13 (.int .i64 (j : Int))) (fun j z w' => j ≤ O.length ∧ z = (O.take j).map (bump d) ++ O.drop j ∧ Hp w [] w' [ownL eI 3 1 s c z]) (fun j _ => O.length - j) 0 O (put_self (Same.eq .refl) rfl) ⟨Nat.zero_le _, by simp, hp⟩ ?_
    (repeat clear hp)
    rintro u2 j z w7 ⟨hj, hz, hp⟩
    have hzl : z.length = O.length := by rw [hz, mlen]
    (repeat (first | (with_reducible first | apply WP_seq | apply WP_region | apply wpl_nil | apply thenQ_n) | (apply wlp; ((first | apply pv_move | (apply pf_len; exact rfl) | apply pv_lss) <;> exact rfl); (first | exact fI rfl | exact fB rfl | exact fS rfl))))
    refine WP_cond_d rfl (fun h3 => ?_) (fun h3 => ?_)
    · have hjl : j < O.length := by omega
      have hjz : j < z.length := by omega
      have hne : O ≠ [] := by rintro rfl; simp at hjl
      obtain ⟨g, hsg⟩ := hv.addr hne
      subst hsg
      have hvz : SVL (some ⟨g, 0, none⟩) c z := by unfold SVL; rw [hzl]; exact hv
      have hg := mget (f := bump d) hjl
      have hst2 := mset (f := bump d) hjl
      have hsm := msame (f := bump d) hjl
      have hyb := hOb O[j] (List.getElem_mem hjl)
      rw [← hz] at hg hst2 hsm
      generalize O[j] = y at hg hst2 hsm hyb
      have hcy := own_elem hp 0 rfl hvz (fun _ => rfl) hg 0 _ rfl
      have hcy : w7.cell? ⟨g, 0 + j * 1, none⟩ = some (.int .i64 y) := hcy
      (repeat (first | (with_reducible first | apply WP_seq | apply WP_block | apply WP_region | apply wpl_nil | apply thenQ_n | apply WP_skip) | (apply wlp; ((first | apply pv_move | (apply pf_load; exact rfl) | apply pv_geq | (apply pf_index; exact rfl)) <;> (first | exact rfl | assumption)); (first | exact fI rfl | exact fB rfl | exact fP rfl | exact fS rfl))))
      refine WP_cond_d rfl (fun h4 => ?_) (fun h4 => ?_)
      · have hby : bump d y = y + 1 := if_pos h4
        rw [hby] at hst2
        (repeat (first | with_reducible apply WP_region | (apply wlp; ((first | apply pv_move | (apply pf_load; exact rfl) | (apply pf_index; exact rfl)) <;> (first | exact rfl | assumption)); (first | exact fI rfl | exact fP rfl | exact fS rfl))))
        (apply wlp; exact pv_add rfl rfl; exact int_eq (i64_in (by omega) (by omega)))
        (repeat (apply wlp; ((apply pf_index; exact rfl) <;> (first | exact rfl | assumption)); exact fP rfl))
        (apply wls0; exact st_setL eI z j (y + 1) hp 0 rfl hvz hjz rfl rfl (fun _ => rfl) rfl rfl (sizeTy_ok rfl); rintro _ w8 ⟨rfl, hp⟩)
        (repeat (first | (with_reducible first | apply WP_region | apply wpl_nil | apply thenQ_n | apply inBlk_n) | (apply wlp; apply pv_move; exact fI rfl)))
        (apply wlp; (exact pv_add rfl rfl); exact int_eq (b := ((j + 1 : Nat) : Int)) (by rw [i64_in (by omega) (by omega)]; omega))
        (repeat (first | (with_reducible first | apply wpl_nil | apply thenQ_n) | (apply wlp; apply pv_assign; exact fI rfl)))
        exact ⟨j + 1, _, put_self (Same.eq (by repeat (first | exact Same.hav | exact Same.refl | refine Same.put rfl ?_ | refine Same.havs rfl ?_))) rfl, ⟨by omega, hst2, hp⟩, by omega⟩
      · have hby : bump d y = y := if_neg h4
        (repeat (first | (with_reducible first | apply WP_region | apply thenQ_n | apply inBlk_n | apply WP_skip) | (apply wlp; apply pv_move; exact fI rfl)))
        (apply wlp; (exact pv_add rfl rfl); exact int_eq (b := ((j + 1 : Nat) : Int)) (by rw [i64_in (by omega) (by omega)]; omega))
        (repeat (first | (with_reducible first | apply wpl_nil | apply thenQ_n) | (apply wlp; apply pv_assign; exact fI rfl)))
        exact ⟨j + 1, z, put_self (Same.eq (by repeat (first | exact Same.hav | exact Same.refl | refine Same.put rfl ?_ | refine Same.havs rfl ?_))) rfl, ⟨by omega, hsm hby, hp⟩, by omega⟩
    · obtain rfl : z = O.map (bump d) := by
        rw [hz, List.take_of_length_le (by omega), List.drop_eq_nil_of_le (by omega), List.append_nil]
      have hvz : SVL s c (O.map (bump d)) := by unfold SVL; rw [hzl]; exact hv
      rw [← hzl]
      generalize O.map (bump d) = Z at *
      (repeat (first | (with_reducible first | apply WP_seq | apply WP_region | apply thenQ_n | apply thenQ_exit | apply WP_exit) | ((with_reducible apply inBlk_same); exact rfl) | (apply wlp; apply pv_move; exact fI rfl)))
      (apply wls; exact sf_slice hp rfl rfl rfl rfl rfl rfl rfl; rintro _ w8 ⟨nb, rfl, hp⟩)
      have hp : Hp w [] w8 [ownL eI 3 1 (some ⟨nb, 0, none⟩) 1 [(d : Int)], ownL eI 3 1 s c Z] := hp.rowOf (cs := [.int .i64 (d : Int)]) 0 1 1 rfl rfl
      have hv1 : SVL (some ⟨nb, 0, none⟩) 1 [(d : Int)] := .inr ⟨nb, 1, rfl, Nat.le_refl _, by unfold maxLen; omega⟩
      (repeat (apply wlp; apply pv_move; exact fS rfl))
      (apply wls; exact sf_app eI [(d : Int)] Z hp 0 rfl rfl rfl rfl rfl rfl (fun _ => rfl) rfl rfl rfl hv1 (ownL_At hp 1 rfl hvz (fun _ => rfl)) (fun _ => rfl) (by simp; omega); rintro _ w9 ⟨s1, c1, rfl, hv2, hp⟩)
      (repeat (first | (with_reducible first | apply WP_region | apply wpl_nil | apply thenQ_n | apply inBlk_n) | (apply wlp; (first | apply pv_move | apply pv_assign); (first | exact fI rfl | exact fS rfl | exact fT rfl))))
      (apply wlp; (exact pv_add rfl rfl); exact int_eq (b := ((i + 2 : Nat) : Int)) (by rw [i64_in (by omega) (by omega)]; omega))
      (repeat (first | (with_reducible first | apply wpl_nil | apply thenQ_n) | (apply wlp; apply pv_assign; exact fI rfl)))
      refine ⟨i + 1, ofN (x / fact (i + 1)), s1, c1, put_self (put_self (put_self (Same.eq (by repeat (first | exact Same.hav | exact Same.refl | refine Same.put rfl ?_ | refine Same.havs rfl ?_))) rfl) rfl) ?_, ⟨by omega, NS.self hfx.div, ?_, ?_⟩, by omega⟩
      · rw [hs1]
        rfl
      · rw [hs1]
        exact hv2
      · rw [hs1]
        exact hp.pick 0 rfl
  · obtain rfl : i = N := by omega
    (repeat (first | (with_reducible first | apply WP_seq | apply WP_region | apply wpl_nil | apply thenQ_n | apply thenQ_exit | apply WP_ret | apply WP_exit) | ((with_reducible apply inBlk_same); exact rfl) | (apply wlp; (first | apply pv_move | apply pv_assign); (first | exact fB rfl | exact fS rfl))))
    exact ret_tmp2 rfl rfl rfl ⟨_, rfl, s, c, rfl, hv, hp⟩
end Go.Proofs.YtfjbioghpgmkiaaGreatDoor
/- sortesref19: Ints, Strings, IsOrder, Number, Name, Shuffled; sortesref01.Mod; conditions: the lists lie in memory. -/
namespace Go.Proofs.YtfjbioghpgmkiaaGreatDoor
open Go.Eng Go.Dig

theorem emod_of {n m : Int} (hm : 0 < m) : (n.tmod m + m).tmod m = n % m ∧ 0 ≤ n.tmod m + m ∧ n.tmod m + m < 2 * m := by
  have h1 := Int.tmod_lt_of_pos n hm
  have h2 := Int.lt_tmod_of_pos n hm
  refine ⟨?_, by omega, by omega⟩
  rw [Int.tmod_eq_emod_of_nonneg (by omega), Int.add_emod_right]
  conv => rhs; rw [← Int.mul_tdiv_add_tmod n m]
  rw [Int.add_comm, Int.add_mul_emod_self_left]

/-- in the list every number below n -/
def isR (n : Nat) (l : List Int) : Bool := decide (l.length = n) && (decide (n ≤ 40) && (idn n).all fun k => decide (k ∈ l))
theorem any_snoc {k y : Int} {l : List Int} : decide (k ∈ l ++ [y]) = (decide (k ∈ l) || decide (y = k)) := by
  rw [Bool.eq_iff_iff]
  simp only [decide_eq_true_eq, Bool.or_eq_true, List.mem_append, List.mem_singleton]
  constructor
  · rintro (h | h)
    · exact .inl h
    · exact .inr h.symm
  · rintro (h | h)
    · exact .inl h
    · exact .inr h.symm
def nmB (n : Nat) : ByteArray := if n < 6 then ⟨#[UInt8.ofNat (97 + n)]⟩ else ⟨#[]⟩
/-- the name of a place by a number -/
def nmI (n : Int) : ByteArray := nmB (n % 7).toNat

attribute [local irreducible] PV StepF wpl wpd WP Ret
attribute [local irreducible] Fit fact NS rfO idn lessC num

theorem p24 (a b : List Int) (s s2 : Option Addr) (c c2 : Nat) (w : World) (hs : SlAt w 1 eI s a) (hs2 : SlAt w 1 eI s2 b) (hla : a.length ≤ 9223372036854775806) (hlb : b.length ≤ 9223372036854775806) :
    Ret Tryz.prog 24 [.slice s a.length c, .slice s2 b.length c2] w (fun v w' => v = .bool (decide (a = b)) ∧ Keeps [] w w') := by
  refine Ret.of_WP Tryz.func24 rfl Tryz.ntmps24 rfl ?_
  have hp := Hp.start (M := []) (w := w)
  (repeat (first | (with_reducible first | apply WP_seq | apply WP_region | apply wpl_nil | apply thenQ_n) | (apply wlp; ((first | apply pv_move | apply pv_assign | (apply pf_len; exact rfl) | (apply pv_neq; (first | exact rfl | exact ev_sel rfl (by assumption)))) <;> exact rfl); (first | exact fI rfl | exact fB rfl | exact fS rfl))))
  refine WP_cond_nd rfl (fun h => ?_) (fun h => ?_)
  · have hne : a ≠ b := by rintro rfl; exact h rfl
    (repeat (first | (with_reducible first | apply WP_seq | apply WP_region | apply wpl_nil | apply thenQ_n | apply thenQ_ret | apply WP_ret) | (apply wlp; apply pv_assign; exact fB rfl)))
    exact ret_tmp rfl rfl ⟨_, rfl, by rw [decide_eq_false hne]; rfl, hp.keeps⟩
  · have hl : a.length = b.length := by omega
    (repeat (first | (with_reducible first | apply WP_seq | apply WP_block | apply WP_region | apply wpl_nil | apply thenQ_n | apply WP_skip) | (apply wlp; apply pv_assign; exact fI rfl)))
    refine WP_loopS [4, 5, 11, 12, 13, 14, 15, 16, 17, 18, 19, 20, 21, 22, 23, 24, 25] (fun (i : Nat) F => F.put 5 (.int .i64 (i : Int))) (fun i w' => i ≤ a.length ∧ a.take i = b.take i ∧ Hp w [] w' []) (fun i => a.length - i) 0 (put_self (Same.eq .refl) rfl) ⟨Nat.zero_le _, rfl, hp⟩ ?_
    clear hp
    rintro u i w1 ⟨hi, he, hp⟩
    (repeat (first | (with_reducible first | apply WP_seq | apply WP_region | apply wpl_nil | apply thenQ_n) | (apply wlp; ((first | apply pv_move | (apply pf_len; exact rfl) | apply pv_lss) <;> exact rfl); (first | exact fI rfl | exact fB rfl | exact fS rfl))))
    refine WP_cond_d rfl (fun h2 => ?_) (fun h2 => ?_)
    · have hlt : i < a.length := by omega
      have hlt2 : i < b.length := by omega
      obtain ⟨b0, o0, hs0, hc0⟩ := hs.base (by omega)
      have hci := hc0 i _ (List.getElem?_eq_getElem hlt) 0 _ rfl
      obtain ⟨b1, o1, hs1, hc1⟩ := hs2.base (by omega)
      have hcj := hc1 i _ (List.getElem?_eq_getElem hlt2) 0 _ rfl
      have ht1 := List.take_succ_eq_append_getElem hlt
      have ht2 := List.take_succ_eq_append_getElem hlt2
      have hne : a[i] ≠ b[i] → a ≠ b := by rintro h rfl; exact h rfl
      generalize a[i] = x at hci ht1 hne
      generalize b[i] = y at hcj ht2 hne
      (repeat (with_reducible first | apply WP_seq | apply WP_block | apply thenQ_n | apply WP_skip))
      refine WP_draw mixed (by kernel_rfl) (fun w' => Hp _ _ w' _) hp.drew ?_
      have hp := hp.drew
      (repeat ((apply wdp; exact rfl); (intro w hp; intros; ((first | apply pv_move | (apply pf_load; exact rfl) | (apply pv_neq; (first | exact rfl | exact ev_sel rfl (by assumption))) | (apply pf_index; exact rfl)) <;> (first | exact rfl | assumption | exact hp.old0 (by assumption)))); (intros; (first | exact fI rfl | exact fB rfl | exact fP rfl | exact fS rfl))))
      refine wpd_nil ?_
      (repeat with_reducible apply thenQ_n)
      refine WP_cond_nd rfl (fun h3 => ?_) (fun h3 => ?_)
      · (repeat (first | (with_reducible first | apply WP_seq | apply WP_region | apply wpl_nil | apply thenQ_n | apply thenQ_ret | apply inBlk_ret | apply WP_ret) | (apply wlp; apply pv_assign; exact fB rfl)))
        exact ret_tmp rfl rfl ⟨_, rfl, by rw [decide_eq_false (hne h3)]; rfl, hp.keeps⟩
      · (repeat (first | (with_reducible first | apply WP_region | apply thenQ_n | apply inBlk_n | apply WP_skip) | (apply wlp; apply pv_move; exact fI rfl)))
        (apply wlp; exact pv_add rfl rfl; exact int_eq (i64_in (by omega) (by omega)))
        (repeat (first | (with_reducible first | apply wpl_nil | apply thenQ_n) | (apply wlp; apply pv_assign; exact fI rfl)))
        exact ⟨i + 1, put_self (Same.eq (by repeat (first | exact Same.hav | exact Same.refl | refine Same.put rfl ?_ | refine Same.havs rfl ?_))) rfl, ⟨by omega, by rw [ht1, ht2, he, h3], hp⟩, by omega⟩
    · obtain rfl : i = a.length := by omega
      have hab : a = b := by
        rw [List.take_length, hl, List.take_length] at he
        exact he
      (repeat (first | (with_reducible first | apply WP_seq | apply WP_region | apply wpl_nil | apply thenQ_n | apply thenQ_exit | apply WP_ret | apply WP_exit) | ((with_reducible apply inBlk_same); exact rfl) | (apply wlp; apply pv_assign; exact fB rfl)))
      exact ret_tmp rfl rfl ⟨_, rfl, by rw [decide_eq_true hab]; rfl, hp.keeps⟩
theorem p15 (a b : List ByteArray) (s s2 : Option Addr) (c c2 : Nat) (w : World) (hs : SlAt w 1 eS s a) (hs2 : SlAt w 1 eS s2 b) (hla : a.length ≤ 9223372036854775806) (hlb : b.length ≤ 9223372036854775806) :
    Ret Tryz.prog 15 [.slice s a.length c, .slice s2 b.length c2] w (fun v w' => v = .bool (decide (a = b)) ∧ Keeps [] w w') := by
  refine Ret.of_WP Tryz.func15 rfl Tryz.ntmps15 rfl ?_
  have hp := Hp.start (M := []) (w := w)
  (repeat (first | (with_reducible first | apply WP_seq | apply WP_region | apply wpl_nil | apply thenQ_n) | (apply wlp; ((first | apply pv_move | apply pv_assign | (apply pf_len; exact rfl) | (apply pv_neq; (first | exact rfl | exact ev_sel rfl (by assumption)))) <;> exact rfl); (first | exact fI rfl | exact fB rfl | exact fS rfl))))
  refine WP_cond_nd rfl (fun h => ?_) (fun h => ?_)
  · have hne : a ≠ b := by rintro rfl; exact h rfl
    (repeat (first | (with_reducible first | apply WP_seq | apply WP_region | apply wpl_nil | apply thenQ_n | apply thenQ_ret | apply WP_ret) | (apply wlp; apply pv_assign; exact fB rfl)))
    exact ret_tmp rfl rfl ⟨_, rfl, by rw [decide_eq_false hne]; rfl, hp.keeps⟩
  · have hl : a.length = b.length := by omega
    (repeat (first | (with_reducible first | apply WP_seq | apply WP_block | apply WP_region | apply wpl_nil | apply thenQ_n | apply WP_skip) | (apply wlp; apply pv_assign; exact fI rfl)))
    refine WP_loopS [4, 5, 11, 12, 13, 14, 15, 16, 17, 18, 19, 20, 21, 22, 23, 24, 25] (fun (i : Nat) F => F.put 5 (.int .i64 (i : Int))) (fun i w' => i ≤ a.length ∧ a.take i = b.take i ∧ Hp w [] w' []) (fun i => a.length - i) 0 (put_self (Same.eq .refl) rfl) ⟨Nat.zero_le _, rfl, hp⟩ ?_
    clear hp
    rintro u i w1 ⟨hi, he, hp⟩
    (repeat (first | (with_reducible first | apply WP_seq | apply WP_region | apply wpl_nil | apply thenQ_n) | (apply wlp; ((first | apply pv_move | (apply pf_len; exact rfl) | apply pv_lss) <;> exact rfl); (first | exact fI rfl | exact fB rfl | exact fS rfl))))
    refine WP_cond_d rfl (fun h2 => ?_) (fun h2 => ?_)
    · have hlt : i < a.length := by omega
      have hlt2 : i < b.length := by omega
      obtain ⟨b0, o0, hs0, hc0⟩ := hs.base (by omega)
      have hci := hc0 i _ (List.getElem?_eq_getElem hlt) 0 _ rfl
      obtain ⟨b1, o1, hs1, hc1⟩ := hs2.base (by omega)
      have hcj := hc1 i _ (List.getElem?_eq_getElem hlt2) 0 _ rfl
      have ht1 := List.take_succ_eq_append_getElem hlt
      have ht2 := List.take_succ_eq_append_getElem hlt2
      have hne : a[i] ≠ b[i] → a ≠ b := by rintro h rfl; exact h rfl
      generalize a[i] = x at hci ht1 hne
      generalize b[i] = y at hcj ht2 hne
      (repeat (with_reducible first | apply WP_seq | apply WP_block | apply thenQ_n | apply WP_skip))
      refine WP_draw mixed (by kernel_rfl) (fun w' => Hp _ _ w' _) hp.drew ?_
      have hp := hp.drew
      (repeat ((apply wdp; exact rfl); (intro w hp; intros; ((first | apply pv_move | (apply pf_load; exact rfl) | (apply pf_index; exact rfl) | (apply pv_sneq; (first | exact rfl | exact ev_sel rfl (by assumption)))) <;> (first | exact rfl | assumption | exact hp.old0 (by assumption)))); (intros; (first | exact fI rfl | exact fB rfl | exact fP rfl | exact fS rfl | exact fT rfl))))
      refine wpd_nil ?_
      (repeat with_reducible apply thenQ_n)
      refine WP_cond_nd rfl (fun h3 => ?_) (fun h3 => ?_)
      · (repeat (first | (with_reducible first | apply WP_seq | apply WP_region | apply wpl_nil | apply thenQ_n | apply thenQ_ret | apply inBlk_ret | apply WP_ret) | (apply wlp; apply pv_assign; exact fB rfl)))
        exact ret_tmp rfl rfl ⟨_, rfl, by rw [decide_eq_false (hne h3)]; rfl, hp.keeps⟩
      · (repeat (first | (with_reducible first | apply WP_region | apply thenQ_n | apply inBlk_n | apply WP_skip) | (apply wlp; apply pv_move; exact fI rfl)))
        (apply wlp; exact pv_add rfl rfl; exact int_eq (i64_in (by omega) (by omega)))
        (repeat (first | (with_reducible first | apply wpl_nil | apply thenQ_n) | (apply wlp; apply pv_assign; exact fI rfl)))
        exact ⟨i + 1, put_self (Same.eq (by repeat (first | exact Same.hav | exact Same.refl | refine Same.put rfl ?_ | refine Same.havs rfl ?_))) rfl, ⟨by omega, by rw [ht1, ht2, he, h3], hp⟩, by omega⟩
    · obtain rfl : i = a.length := by omega
      have hab : a = b := by
        rw [List.take_length, hl, List.take_length] at he
        exact he
      (repeat (first | (with_reducible first | apply WP_seq | apply WP_region | apply wpl_nil | apply thenQ_n | apply thenQ_exit | apply WP_ret | apply WP_exit) | ((with_reducible apply inBlk_same); exact rfl) | (apply wlp; apply pv_assign; exact fB rfl)))
      exact ret_tmp rfl rfl ⟨_, rfl, by rw [decide_eq_true hab]; rfl, hp.keeps⟩
theorem p30 (n m : Int) (w : World) (hm : 0 < m) (hm2 : m ≤ 4611686018427387904) : Ret Tryz.prog 30 [.int .i64 n, .int .i64 m] w (fun v w' => v = .int .i64 (n % m) ∧ Keeps [] w w') := by
  obtain ⟨h1, h2, h3⟩ := emod_of (n := n) hm
  refine Ret.of_WP Tryz.func30 rfl Tryz.ntmps30 rfl ?_
  have hp := Hp.start (M := []) (w := w)
  (repeat (first | (with_reducible first | apply WP_seq | apply WP_region | apply wpl_nil | apply thenQ_n) | (apply wlp; (first | apply pv_move | apply pv_assign); exact fI rfl)))
  (apply wlp; exact pv_rem rfl rfl (by omega); exact fI rfl)
  (repeat (apply wlp; apply pv_move; exact fI rfl))
  (apply wlp; exact pv_add rfl rfl; exact int_eq (i64_in (by omega) (by omega)))
  (repeat (apply wlp; apply pv_move; exact fI rfl))
  (apply wlp; exact pv_rem rfl rfl (by omega); exact int_eq h1)
  (repeat (first | (with_reducible first | apply wpl_nil | apply thenQ_n | apply WP_ret) | (apply wlp; apply pv_assign; exact fI rfl)))
  exact ret_tmp rfl rfl ⟨_, rfl, rfl, hp.keeps⟩
theorem p33 (a : Int) (w : World) (h2 : a ≤ 9223372036854775807) : Ret Tryz.prog 33 [.int .i64 a] w (fun v w' => v = .string (ofN a.toNat) ∧ Keeps [] w w') := by
  refine Ret.of_WP Tryz.func33 rfl Tryz.ntmps33 rfl ?_
  have hp := Hp.start (M := []) (w := w)
  (repeat (first | (with_reducible first | apply WP_seq | apply WP_region | apply wpl_nil | apply thenQ_n) | (apply wlp; (first | apply pv_move | apply pv_assign); (first | exact fI rfl | exact fT rfl))))
  (apply wls; exact st_call rfl ent37 rfl (c40 a _ h2); rintro _ w1 ⟨rfl, hk⟩; have hp := hp.call hk)
  (repeat (first | (with_reducible first | apply wpl_nil | apply thenQ_n | apply WP_ret) | (apply wlp; apply pv_assign; exact fT rfl)))
  exact ret_tmp rfl rfl ⟨_, rfl, rfl, hp.keeps⟩
theorem p34 (a : Int) (w : World) : Ret Tryz.prog 34 [.int .i64 a] w (fun v w' => v = .string (nmI a) ∧ Keeps [] w w') := by
  have hm1 := Int.emod_nonneg a (show (7 : Int) ≠ 0 by decide)
  have hm2 := Int.emod_lt_of_pos a (show (0 : Int) < 7 by decide)
  obtain ⟨k, hk⟩ : ∃ k : Nat, a % 7 = k := ⟨(a % 7).toNat, by omega⟩
  have hn : nmI a = nmB k := by unfold nmI; rw [hk]; rfl
  have hk7 : k < 7 := by omega
  rw [hn]
  refine Ret.of_WP Tryz.func34 rfl Tryz.ntmps34 rfl ?_
  have hp := Hp.start (M := []) (w := w)
  (repeat (first | (with_reducible first | apply WP_seq | apply WP_region | apply wpl_nil | apply thenQ_n) | (apply wlp; apply pv_assign; exact fT rfl)))
  (apply wls; exact sf_slice hp rfl rfl rfl rfl rfl rfl rfl; rintro _ w1 ⟨g, rfl, hp⟩)
  have hp : Hp w [] w1 [blk g 7 (frOf [.string (nmB 0), .string (nmB 1), .string (nmB 2), .string (nmB 3), .string (nmB 4), .string (nmB 5), .string (nmB 6)]) 9] := hp
  (repeat (apply wlp; apply pv_move; exact fI rfl))
  (apply wls; exact st_call rfl ent30 rfl (p30 a 7 _ (by decide) (by decide)); rintro _ w2 ⟨rfl, hk2⟩; have hp := hp.call hk2)
  rw [hk]
  have hc : w2.cell? ⟨g, 0 + k * 1, none⟩ = some (.string (nmB k)) := by
    have h1 := hp.cell 0 (o := 0 + k * 1) rfl (nblt_true (by omega))
    rw [h1]
    have : k = 0 ∨ k = 1 ∨ k = 2 ∨ k = 3 ∨ k = 4 ∨ k = 5 ∨ k = 6 := by omega
    rcases this with rfl | rfl | rfl | rfl | rfl | rfl | rfl <;> rfl
  (repeat (first | (with_reducible first | apply wpl_nil | apply thenQ_n | apply WP_ret) | (apply wlp; ((first | apply pv_assign | (apply pf_load; exact rfl) | (apply pf_index; exact rfl)) <;> (first | exact rfl | assumption)); (first | exact fP rfl | exact fT rfl))))
  exact ret_tmp rfl rfl ⟨_, rfl, rfl, hp.keeps⟩
theorem p67 (n : Nat) (l : List Int) (s : Option Addr) (c : Nat) (w : World) (hs : SlAt w 1 eI s l) (hl : l.length ≤ 9223372036854775806) (hn : n ≤ 9223372036854775806) :
    Ret Tryz.prog 67 [.slice s l.length c, .int .i64 (n : Int)] w (fun v w' => v = .bool (isR n l) ∧ Keeps [] w w') := by
  refine Ret.of_WP Tryz.func67 rfl Tryz.ntmps67 rfl ?_
  have hp := Hp.start (M := []) (w := w)
  (repeat (first | (with_reducible first | apply WP_seq | apply WP_region | apply wpl_nil | apply thenQ_n) | ((first | apply wlp | (apply wlg; exact rfl; exact rfl)); (intros; ((first | apply pv_move | apply pv_assign | (apply pf_len; exact rfl) | exact pv_or rfl rfl rfl | apply pv_gtr | (apply pv_neq; (first | exact rfl | exact ev_sel rfl (by assumption)))) <;> (first | exact rfl | exact ev_sel rfl (by assumption)))); (intros; (first | exact fI rfl | exact fB rfl | exact fS rfl)))))
  refine WP_cond rfl (fun h => ?_) (fun h => ?_)
  · have hz : isR n l = false := by
      unfold isR
      simp at h
      by_cases h1 : l.length = n
      · rw [decide_eq_true h1, decide_eq_false (show ¬ n ≤ 40 by omega)]
        rfl
      · rw [decide_eq_false h1]
        rfl
    rw [hz]
    (repeat (first | (with_reducible first | apply WP_seq | apply WP_region | apply wpl_nil | apply thenQ_n | apply thenQ_ret | apply WP_ret) | (apply wlp; apply pv_assign; exact fB rfl)))
    exact ret_tmp rfl rfl ⟨_, rfl, rfl, hp.keeps⟩
  have hln : l.length = n ∧ n ≤ 40 := by simp at h; omega
  obtain ⟨hln, hn40⟩ := hln
  clear h
  have hR : isR n l = (idn n).all fun k => decide (k ∈ l) := by
    unfold isR
    rw [decide_eq_true hln, decide_eq_true hn40]
    rfl
  rw [hR]
  (repeat (first | (with_reducible first | apply WP_seq | apply WP_block | apply WP_region | apply wpl_nil | apply thenQ_n | apply WP_skip) | (apply wlp; apply pv_assign; exact fI rfl)))
  refine WP_loopS [4, 5, 6, 7, 16, 17, 18, 19, 20, 21, 22, 23, 24, 25, 26, 27, 28, 29, 30, 31, 32, 33, 34, 35, 36] (fun (i : Nat) F => F.put 5 (.int .i64 (i : Int))) (fun i w' => i ≤ n ∧ (idn i).all (fun k => decide (k ∈ l)) = true ∧ Hp w [] w' []) (fun i => n - i) 0 (put_self (Same.eq .refl) rfl) ⟨Nat.zero_le _, by unfold idn; rfl, hp⟩ ?_
  (repeat clear hp)
  rintro u i w1 ⟨hi, hall, hp⟩
  (repeat (first | (with_reducible first | apply WP_seq | apply WP_region | apply wpl_nil | apply thenQ_n) | (apply wlp; ((first | apply pv_move | apply pv_lss) <;> exact rfl); (first | exact fI rfl | exact fB rfl))))
  refine WP_cond_d rfl (fun h => ?_) (fun h => ?_)
  · (repeat (first | (with_reducible first | apply WP_seq | apply WP_block | apply WP_region | apply wpl_nil | apply thenQ_n | apply WP_skip) | (apply wlp; apply pv_assign; (first | exact fI rfl | exact fB rfl))))
    refine WP_loopS [6, 7, 21, 22, 23, 24, 25, 26, 27, 28, 29, 30, 31, 32, 33, 34] (fun (j : Nat) F => (F.put 7 (.int .i64 (j : Int))).put 6 (.bool (decide ((i : Int) ∈ l.take j)))) (fun j w' => j ≤ n ∧ Hp w [] w' []) (fun j => n - j) 0 (put_self (put_self (Same.eq .refl) rfl) (by simp; rfl)) ⟨Nat.zero_le _, hp⟩ ?_
    (repeat clear hp)
    rintro u2 j w2 ⟨hj, hp⟩
    (repeat (first | (with_reducible first | apply WP_seq | apply WP_region | apply wpl_nil | apply thenQ_n) | (apply wlp; ((first | apply pv_move | apply pv_lss) <;> exact rfl); (first | exact fI rfl | exact fB rfl))))
    refine WP_cond_d rfl (fun h2 => ?_) (fun h2 => ?_)
    · have hlt : j < l.length := by omega
      obtain ⟨b0, o0, hs0, hc0⟩ := hs.base (by omega)
      have hci := hc0 j _ (List.getElem?_eq_getElem hlt) 0 _ rfl
      have htk := List.take_succ_eq_append_getElem hlt
      generalize l[j] = x at hci htk
      have hci : w.cell? ⟨b0, o0 + j * 1, none⟩ = some (.int .i64 x) := hci
      have han := any_snoc (k := (i : Int)) (y := x) (l := l.take j)
      rw [← htk] at han
      (repeat (first | (with_reducible first | apply WP_seq | apply WP_block | apply WP_region | apply wpl_nil | apply thenQ_n | apply inBlk_n | apply WP_skip) | ((first | apply wlp | (apply wlg; exact rfl; exact rfl)); (intros; ((first | apply pv_move | apply pv_assign | (apply pf_load; exact rfl) | exact pv_or rfl rfl rfl | (apply pv_eql; (first | exact rfl | exact ev_sel rfl (by assumption))) | (apply pf_index; exact rfl)) <;> (first | exact ev_sel rfl (by assumption) | assumption | exact hp.old0 (by assumption)))); (intros; (first | exact fI rfl | exact fB rfl | exact fP rfl | exact fS rfl)))))
      (apply wlp; (exact pv_add rfl rfl); exact int_eq (b := ((j + 1 : Nat) : Int)) (by rw [i64_in (by omega) (by omega)]; omega))
      (repeat (first | (with_reducible first | apply wpl_nil | apply thenQ_n) | (apply wlp; apply pv_assign; exact fI rfl)))
      exact ⟨j + 1, put_self (put_self (Same.eq (by repeat (first | exact Same.hav | exact Same.refl | refine Same.put rfl ?_ | refine Same.havs rfl ?_))) rfl) (bool_eq han.symm), ⟨by omega, hp⟩, by omega⟩
    · rw [List.take_of_length_le (by omega)]
      (repeat (first | (with_reducible first | apply WP_seq | apply WP_region | apply wpl_nil | apply thenQ_n | apply thenQ_exit | apply WP_exit) | ((with_reducible apply inBlk_same); exact rfl) | (apply wlp; ((first | apply pv_move | apply pv_not) <;> exact rfl); exact fB rfl)))
      refine WP_cond_nd rfl (fun h3 => ?_) (fun h3 => ?_)
      · have hz : (idn n).all (fun k => decide (k ∈ l)) = false := by
          cases h5 : (idn n).all (fun k => decide (k ∈ l))
          · rfl
          · rw [List.all_eq_true] at h5
            have := h5 (i : Int) (by unfold idn; rw [List.mem_map]; exact ⟨i, List.mem_range.2 (by omega), rfl⟩)
            exact absurd (of_decide_eq_true this) h3
        rw [hz]
        (repeat (first | (with_reducible first | apply WP_seq | apply WP_region | apply wpl_nil | apply thenQ_n | apply thenQ_ret | apply inBlk_ret | apply WP_ret) | (apply wlp; apply pv_assign; exact fB rfl)))
        exact ret_tmp rfl rfl ⟨_, rfl, rfl, hp.keeps⟩
      · (repeat (first | (with_reducible first | apply WP_region | apply thenQ_n | apply inBlk_n | apply WP_skip) | (apply wlp; apply pv_move; exact fI rfl)))
        (apply wlp; (exact pv_add rfl rfl); exact int_eq (b := ((i + 1 : Nat) : Int)) (by rw [i64_in (by omega) (by omega)]; omega))
        (repeat (first | (with_reducible first | apply wpl_nil | apply thenQ_n) | (apply wlp; apply pv_assign; exact fI rfl)))
        refine ⟨i + 1, put_self (Same.eq (by repeat (first | exact Same.hav | exact Same.refl | refine Same.put rfl ?_ | refine Same.havs rfl ?_))) rfl, ⟨by omega, ?_, hp⟩, by omega⟩
        rw [idn_succ, List.all_append, hall]
        simp [h3]
  · obtain rfl : i = n := by omega
    rw [hall]
    (repeat (first | (with_reducible first | apply WP_seq | apply WP_region | apply wpl_nil | apply thenQ_n | apply thenQ_exit | apply WP_ret | apply WP_exit) | ((with_reducible apply inBlk_same); exact rfl) | (apply wlp; apply pv_assign; exact fB rfl)))
    exact ret_tmp rfl rfl ⟨_, rfl, rfl, hp.keeps⟩
theorem p31f (l : List Int) (s : Option Addr) (c : Nat) (w : World) (hs : SlAt w 1 eI s l) (hl : l.length ≤ 9223372036854775806) (h : isR l.length l = false) :
    Ret Tryz.prog 31 [.slice s l.length c] w (fun v w' => v = .tuple #[.string (ofN 0), .bool false] ∧ Keeps [] w w') := by
  refine Ret.of_WP Tryz.func31 rfl Tryz.ntmps31 rfl ?_
  have hp := Hp.start (M := []) (w := w)
  (repeat (first | (with_reducible first | apply WP_seq | apply WP_region | apply wpl_nil | apply thenQ_n) | (apply wlp; ((first | apply pv_move | apply pv_assign | (apply pf_len; exact rfl)) <;> exact rfl); (first | exact fI rfl | exact fB rfl | exact fS rfl | exact fT rfl))))
  (apply wls; exact st_call rfl ent67 rfl (p67 l.length l s c _ hs hl hl); rintro _ w1 ⟨rfl, hk⟩; have hp := hp.call hk)
  rw [h]
  (repeat (first | (with_reducible first | apply WP_seq | apply WP_region | apply wpl_nil | apply thenQ_n) | (apply wlp; ((first | apply pv_move | apply pv_assign | apply pv_not) <;> exact rfl); exact fB rfl)))
  refine WP_cond_t rfl ?_
  (repeat (first | (with_reducible first | apply WP_seq | apply WP_region | apply wpl_nil | apply thenQ_n | apply thenQ_ret | apply WP_ret) | (apply wlp; apply pv_assign; (first | exact fB rfl | exact fT rfl))))
  exact ret_tmp2 rfl rfl rfl ⟨_, rfl, rfl, hp.keeps⟩
theorem p31t (l : List Int) (s : Option Addr) (c : Nat) (w : World) (hs : SlAt w 1 eI s l) (hl : l.length ≤ 40) (h : isR l.length l = true) :
    Ret Tryz.prog 31 [.slice s l.length c] w (fun v w' => v = .tuple #[.string (ofN (num l)), .bool true] ∧ Keeps [] w w') := by
  have hnl := num_lt l
  have hfn : Fit (num l) := (fact_fit (n := l.length) (by omega)).le (by omega)
  refine Ret.of_WP Tryz.func31 rfl Tryz.ntmps31 rfl ?_
  have hp := Hp.start (M := []) (w := w)
  (repeat (first | (with_reducible first | apply WP_seq | apply WP_region | apply wpl_nil | apply thenQ_n) | (apply wlp; ((first | apply pv_move | apply pv_assign | (apply pf_len; exact rfl)) <;> exact rfl); (first | exact fI rfl | exact fB rfl | exact fS rfl | exact fT rfl))))
  (apply wls; exact st_call rfl ent67 rfl (p67 l.length l s c _ hs (by omega) (by omega)); rintro _ w1 ⟨rfl, hk⟩; have hp := hp.call hk)
  rw [h]
  (repeat (first | (with_reducible first | apply WP_seq | apply WP_region | apply wpl_nil | apply thenQ_n) | (apply wlp; ((first | apply pv_move | apply pv_assign | apply pv_not) <;> exact rfl); exact fB rfl)))
  refine WP_cond_f rfl ?_
  (repeat (first | (with_reducible first | apply WP_seq | apply WP_block | apply WP_region | apply wpl_nil | apply thenQ_n | apply WP_skip) | (apply wlp; apply pv_assign; (first | exact fI rfl | exact fT rfl))))
  refine WP_loop2 [5, 6, 7, 8, 15, 16, 17, 18, 19, 20, 21, 22, 23, 24, 25, 26, 27, 28, 29, 30, 31, 32, 33, 34, 35, 36, 37, 38, 39, 40, 41, 42, 43, 44, 45, 46, 47, 48, 49] (fun (k S : Nat) F => (F.put 6 (.int .i64 (k : Int))).put 5 (.string (ofN S)))
    (fun k S w' => k ≤ l.length ∧ S * fact (l.length - k) + num (l.drop k) = num l ∧ Hp w [] w' []) (fun k _ => l.length - k) 0 0 (put_self (put_self (Same.eq .refl) rfl) rfl) ⟨Nat.zero_le _, by simp, hp⟩ ?_
  (repeat clear hp)
  rintro u k S w2 ⟨hk, hS, hp⟩
  (repeat (first | (with_reducible first | apply WP_seq | apply WP_region | apply wpl_nil | apply thenQ_n) | (apply wlp; ((first | apply pv_move | (apply pf_len; exact rfl) | apply pv_lss) <;> exact rfl); (first | exact fI rfl | exact fB rfl | exact fS rfl))))
  refine WP_cond_d rfl (fun h1 => ?_) (fun h1 => ?_)
  · have hlt : k < l.length := by omega
    obtain ⟨b0, o0, hs0, hc0⟩ := hs.base (by omega)
    subst hs0
    have hck := hc0 k _ (List.getElem?_eq_getElem hlt) 0 _ rfl
    have hdr : l.drop k = l[k] :: l.drop (k + 1) := List.drop_eq_getElem_cons hlt
    have hdl : (l.drop (k + 1)).length = l.length - (k + 1) := List.length_drop
    have hge : ∀ q, (l.drop (k + 1))[q]? = l[k + 1 + q]? := fun q => List.getElem?_drop
    generalize l[k] = x at hck hdr
    have hck : w.cell? ⟨b0, o0 + k * 1, none⟩ = some (.int .i64 x) := hck
    have hnum : num (l.drop k) = lessC x (l.drop (k + 1)) * fact (l.drop (k + 1)).length + num (l.drop (k + 1)) := by rw [hdr, num_cons]
    have hle := lessC_le x (l.drop (k + 1))
    have hfa : fact (l.length - k) = (l.length - k) * fact (l.drop (k + 1)).length := by
      rw [hdl, show l.length - k = (l.length - (k + 1)) + 1 from by omega, fact_succ]
    generalize hD : l.drop (k + 1) = D at *
    (repeat (first | (with_reducible first | apply WP_seq | apply WP_block | apply WP_region | apply wpl_nil | apply thenQ_n | apply WP_skip) | (apply wlp; (first | apply pv_move | apply pv_assign); exact fI rfl)))
    (apply wlp; (exact pv_add rfl rfl); exact int_eq (b := ((k + 1 : Nat) : Int)) (by rw [i64_in (by omega) (by omega)]; omega))
    (repeat (first | (with_reducible first | apply WP_block | apply wpl_nil | apply thenQ_n) | (apply wlp; apply pv_assign; exact fI rfl)))
    refine WP_loopS [7, 8, 23, 24, 25, 26, 27, 28, 29, 30, 31, 32, 33, 34, 35, 36, 37, 38, 39] (fun (q : Nat) F => (F.put 8 (.int .i64 ((k + 1 + q : Nat) : Int))).put 7 (.int .i64 ((lessC x (D.take q) : Nat) : Int))) (fun q w' => q ≤ D.length ∧ Hp w [] w' []) (fun q => D.length - q) 0 (put_self (put_self (Same.eq .refl) rfl) (by unfold lessC; rfl)) ⟨Nat.zero_le _, hp⟩ ?_
    (repeat clear hp)
    rintro u2 q w3 ⟨hq, hp⟩
    (repeat (first | (with_reducible first | apply WP_seq | apply WP_region | apply wpl_nil | apply thenQ_n) | (apply wlp; ((first | apply pv_move | (apply pf_len; exact rfl) | apply pv_lss) <;> exact rfl); (first | exact fI rfl | exact fB rfl | exact fS rfl))))
    refine WP_cond_d rfl (fun h3 => ?_) (fun h3 => ?_)
    · have hql : q < D.length := by omega
      have hjl : k + 1 + q < l.length := by omega
      have hgq := hge q
      rw [List.getElem?_eq_getElem hql, List.getElem?_eq_getElem hjl] at hgq
      injection hgq with hgq
      have hcj := hc0 (k + 1 + q) _ (List.getElem?_eq_getElem hjl) 0 _ rfl
      have htk := List.take_succ_eq_append_getElem hql
      rw [hgq] at htk
      generalize l[k + 1 + q] = y at hcj htk
      have hcj : w.cell? ⟨b0, o0 + (k + 1 + q) * 1, none⟩ = some (.int .i64 y) := hcj
      have hsn := lessC_snoc x y (D.take q)
      rw [← htk] at hsn
      have hll := lessC_le x (D.take q)
      rw [List.length_take] at hll
      (repeat (with_reducible first | apply WP_seq | apply WP_block | apply thenQ_n | apply WP_skip))
      refine WP_draw mixed (by kernel_rfl) (fun w' => Hp _ _ w' _) hp.drew ?_
      have hp := hp.drew
      (repeat ((apply wdp; exact rfl); (intro w hp; intros; ((first | apply pv_move | (apply pf_load; exact rfl) | apply pv_lss | (apply pf_index; exact rfl)) <;> (first | exact rfl | assumption | exact hp.old0 (by assumption)))); (intros; (first | exact fI rfl | exact fB rfl | exact fP rfl | exact fS rfl))))
      refine wpd_nil ?_
      refine WP_cond_d rfl (fun h4 => ?_) (fun h4 => ?_)
      · rw [if_pos h4] at hsn
        (repeat (first | with_reducible apply WP_region | (apply wlp; apply pv_move; exact fI rfl)))
        (apply wlp; exact pv_add rfl rfl; exact int_eq (i64_in (by omega) (by omega)))
        (repeat (first | (with_reducible first | apply WP_region | apply wpl_nil | apply thenQ_n | apply inBlk_n) | (apply wlp; (first | apply pv_move | apply pv_assign); exact fI rfl)))
        (apply wlp; (exact pv_add rfl rfl); exact int_eq (b := ((k + 1 + (q + 1) : Nat) : Int)) (by rw [i64_in (by omega) (by omega)]; omega))
        (repeat (first | (with_reducible first | apply wpl_nil | apply thenQ_n) | (apply wlp; apply pv_assign; exact fI rfl)))
        exact ⟨q + 1, put_self (put_self (Same.eq (by repeat (first | exact Same.hav | exact Same.refl | refine Same.put rfl ?_ | refine Same.havs rfl ?_))) rfl) (int_eq (by rw [hsn]; rfl)), ⟨by omega, hp⟩, by omega⟩
      · rw [if_neg h4] at hsn
        (repeat (first | (with_reducible first | apply WP_region | apply thenQ_n | apply inBlk_n | apply WP_skip) | (apply wlp; apply pv_move; exact fI rfl)))
        (apply wlp; (exact pv_add rfl rfl); exact int_eq (b := ((k + 1 + (q + 1) : Nat) : Int)) (by rw [i64_in (by omega) (by omega)]; omega))
        (repeat (first | (with_reducible first | apply wpl_nil | apply thenQ_n) | (apply wlp; apply pv_assign; exact fI rfl)))
        exact ⟨q + 1, put_self (put_self (Same.eq (by repeat (first | exact Same.hav | exact Same.refl | refine Same.put rfl ?_ | refine Same.havs rfl ?_))) rfl) (int_eq (by rw [hsn]; rfl)), ⟨by omega, hp⟩, by omega⟩
    · have e : D.take q = D := List.take_of_length_le (by omega)
      rw [e]
      have hpf := fact_pos D.length
      have h5 : (S * (l.length - k) + lessC x D) * fact D.length + num D = num l := by
        rw [← hS, hnum, hfa, Nat.add_mul, Nat.mul_assoc]
        omega
      have h6 : S * (l.length - k) + lessC x D ≤ num l := by
        have : (S * (l.length - k) + lessC x D) * 1 ≤ (S * (l.length - k) + lessC x D) * fact D.length := Nat.mul_le_mul_left _ hpf
        omega
      have hfS : Fit S := by
        refine hfn.le (Nat.le_trans ?_ h6)
        have : S * 1 ≤ S * (l.length - k) := Nat.mul_le_mul_left _ (by omega)
        omega
      (repeat (first | (with_reducible first | apply WP_region | apply thenQ_n | apply thenQ_exit | apply WP_exit) | ((with_reducible apply inBlk_same); exact rfl) | (apply wlp; ((first | apply pv_move | (apply pf_len; exact rfl)) <;> exact rfl); (first | exact fI rfl | exact fS rfl | exact fT rfl))))
      (apply wlp; (exact pv_sub rfl rfl); exact int_eq (b := ((l.length - k : Nat) : Int)) (by rw [i64_in (by omega) (by omega)]; omega))
      (apply wls; exact st_call rfl ent37 rfl (c40 ((l.length - k : Nat) : Int) _ (by omega)); rintro _ w4 ⟨rfl, hk4⟩; have hp := hp.call hk4)
      rw [Int.toNat_natCast]
      (apply wls; exact st_call rfl ent36 rfl (c43 S (l.length - k) _ hfS (Fit.small (by omega))); rintro _ w5 ⟨rfl, hk5⟩; have hp := hp.call hk5)
      (repeat (apply wlp; apply pv_move; exact fI rfl))
      (apply wls; exact st_call rfl ent37 rfl (c40 ((lessC x D : Nat) : Int) _ (by omega)); rintro _ w6 ⟨rfl, hk6⟩; have hp := hp.call hk6)
      rw [Int.toNat_natCast]
      (apply wls; exact st_call rfl ent32 rfl (c41 (S * (l.length - k)) (lessC x D) _ (hfn.le (by omega)) (Fit.small (by omega))); rintro _ w7 ⟨rfl, hk7⟩; have hp := hp.call hk7)
      (repeat (first | (with_reducible first | apply WP_region | apply wpl_nil | apply thenQ_n | apply inBlk_n) | (apply wlp; (first | apply pv_move | apply pv_assign); (first | exact fI rfl | exact fT rfl))))
      (apply wlp; (exact pv_add rfl rfl); exact int_eq (b := ((k + 1 : Nat) : Int)) (by rw [i64_in (by omega) (by omega)]; omega))
      (repeat (first | (with_reducible first | apply wpl_nil | apply thenQ_n) | (apply wlp; apply pv_assign; exact fI rfl)))
      exact ⟨k + 1, _, put_self (put_self (Same.eq (by repeat (first | exact Same.hav | exact Same.refl | refine Same.put rfl ?_ | refine Same.havs rfl ?_))) rfl) rfl, ⟨by omega, by rw [hD, ← hdl]; exact h5, hp⟩, by omega⟩
  · have hS : S = num l := by
      rw [List.drop_eq_nil_of_le (by omega), num_nil, show l.length - k = 0 from by omega] at hS
      have : fact 0 = 1 := by unfold fact; rfl
      rw [this] at hS
      omega
    subst hS
    (repeat (first | (with_reducible first | apply WP_seq | apply WP_region | apply wpl_nil | apply thenQ_n | apply thenQ_exit | apply WP_ret | apply WP_exit) | ((with_reducible apply inBlk_same); exact rfl) | (apply wlp; (first | apply pv_move | apply pv_assign); (first | exact fB rfl | exact fT rfl))))
    exact ret_tmp2 rfl rfl rfl ⟨_, rfl, rfl, hp.keeps⟩
end Go.Proofs.YtfjbioghpgmkiaaGreatDoor
/- sortesref19.Shuffled; conditions: at most 40 entrants. -/
namespace Go.Proofs.YtfjbioghpgmkiaaGreatDoor
open Go.Eng Go.Dig

theorem pv_neg {P : Program} {n : FrK} {w : World} {F : Fr} {d : Option Tmp} {ty : TypeId} {pos : String} {aft : Array Edge} {g : Option (Nat × Bool)} {x : Operand} {t : Nat} {k : IntKind} {a : Int} (hx : ev n F x = .int k a) : PV P n w F ⟨d, .unOp .neg t x, ty, pos, aft, g⟩ (.int k (k.wrap (-a))) := by
  simp [PV, execOp, hx, Op.unary, Op.intArith]
/-- the number that determines a shuffled order -/
def shV (a : Int) : Nat := (max a (IntKind.i64.wrap (-(IntKind.i64.wrap (a + 1))))).toNat
def shX (n : Nat) (a : Int) : Nat := shV a * 1000003 % fact n
theorem shV_bd (a : Int) (h : a ≤ 9223372036854775807) : max a (IntKind.i64.wrap (-(IntKind.i64.wrap (a + 1)))) ≤ 9223372036854775807 := by
  have := (i64_out (z := -(IntKind.i64.wrap (a + 1)))).2
  omega
theorem shX_lt (n : Nat) (a : Int) : shX n a < fact n := Nat.mod_lt _ (fact_pos n)

attribute [local irreducible] PV StepF wpl wpd WP Ret
attribute [local irreducible] Fit fact NS rfO idn lessC num shV

theorem p13 (N : Nat) (a : Int) (w : World) (hN : N ≤ 40) (ha : a ≤ 9223372036854775807) : Ret Tryz.prog 13 [.int .i64 (N : Int), .int .i64 a] w (fun v w' => ∃ s c, v = .slice s (rfO N (shX N a)).length c ∧ SVL s c (rfO N (shX N a)) ∧ Hp w [] w' [ownL eI 3 1 s c (rfO N (shX N a))]) := by
  have hbd := shV_bd a ha
  have hsh : (max a (IntKind.i64.wrap (-(IntKind.i64.wrap (a + 1))))).toNat = shV a := by unfold shV; rfl
  have hfs : Fit (shV a) := Fit.small (by rw [← hsh]; omega)
  have hfm : Fit (shV a * 1000003) := by
    refine Fit.of (k := 63 + 20) ?_ (by decide)
    rw [Nat.pow_add]
    refine Nat.mul_lt_mul'' ?_ (by decide)
    have : (2 : Nat) ^ 63 = 9223372036854775808 := by decide
    rw [← hsh]
    omega
  have hx := shX_lt N a
  have hxe : shV a * 1000003 % fact N = shX N a := by unfold shX; rfl
  refine Ret.of_WP Tryz.func13 rfl Tryz.ntmps13 rfl ?_
  have hp := Hp.start (M := []) (w := w)
  (repeat (first | (with_reducible first | apply WP_seq | apply WP_region | apply wpl_nil | apply thenQ_n) | (apply wlp; (first | apply pv_move | apply pv_assign); (first | exact fI rfl | exact fS rfl))))
  (apply wlp; exact pv_add rfl rfl; exact fI rfl)
  (apply wlp; exact pv_neg rfl; exact fI rfl)
  (apply wlp; exact pv_max rfl rfl; exact fI rfl)
  (apply wls; exact st_call rfl ent37 rfl (c40 _ _ hbd); rintro _ w1 ⟨rfl, hk⟩; have hp := hp.call hk)
  rw [hsh]
  (apply wls; exact st_call rfl ent37 rfl (c40 1000003 _ (by decide)); rintro _ w2 ⟨rfl, hk⟩; have hp := hp.call hk)
  rw [show (1000003 : Int).toNat = 1000003 from rfl]
  (apply wls; exact st_call rfl ent36 rfl (c43 (shV a) 1000003 _ hfs (Fit.small (by decide))); rintro _ w3 ⟨rfl, hk⟩; have hp := hp.call hk)
  (repeat (apply wlp; apply pv_move; exact fI rfl))
  (apply wls; exact st_call rfl ent26 rfl (p26 N _ (by omega)); rintro _ w4 ⟨rfl, hk⟩; have hp := hp.call hk)
  (apply wls; exact st_call rfl ent28 rfl (c92 (shV a * 1000003) (fact N) _ hfm (fact_fit (by omega)) (fact_pos N)); rintro _ w5 ⟨rfl, hk⟩; have hp := hp.call hk)
  rw [hxe]
  (repeat (first | (with_reducible first | apply WP_seq | apply WP_region | apply wpl_nil | apply thenQ_n) | (apply wlp; ((first | apply pv_move | apply pv_assign | apply pv_extract) <;> exact rfl); (first | exact fI rfl | exact fB rfl | exact fT rfl | exact fU rfl))))
  (apply wls; exact st_call rfl ent29 rfl (p29t N (ofN (shX N a)) (shX N a) _ (NS.self ((fact_fit (n := N) (by omega)).le (by omega))) ((fact_fit (n := N) (by omega)).le (by omega)) hN hx); rintro _ w6 ⟨s, c, rfl, hv, hpo⟩; have hp := hp.join hpo; clear hpo)
  (repeat (first | (with_reducible first | apply WP_seq | apply WP_region | apply wpl_nil | apply thenQ_n | apply WP_ret) | (apply wlp; ((first | apply pv_move | apply pv_assign | apply pv_extract) <;> exact rfl); (first | exact fB rfl | exact fS rfl | exact fU rfl))))
  exact ret_tmp rfl rfl ⟨_, rfl, s, c, rfl, hv, hp⟩
end Go.Proofs.YtfjbioghpgmkiaaGreatDoor
