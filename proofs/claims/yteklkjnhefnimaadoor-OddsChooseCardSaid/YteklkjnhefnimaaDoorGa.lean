/- sortesref01: Canon, Of, Int, small; conditions: the numbers are short. -/
import Derived.Test.YteklkjnhefnimaaDoorEk
namespace Go.Proofs.YteklkjnhefnimaaDoor
open Go.Eng Go.Dig

theorem canon_digs (x : Nat) : (digs 256 x).reverse.dropWhile (· == 0) = (digs 256 x).reverse := by
  have h := strip_dg (lt_of_len (b := 256) (by decide) (Nat.le_refl (digs 256 x).length))
  have h1 : dg 256 x (digs 256 x).length = digs 256 x := by
    have := dg_of_val (digs_bd (b := 256) (by decide) x)
    rw [digs_val (by decide)] at this
    exact this.symm
  rwa [h1] at h
section
variable {P : Program} {n : Nat} {F : Fr} {w : World} {d : Option Tmp} {ty : TypeId} {pos : String} {aft : Array Edge} {g : Option (Nat × Bool)} {x y : Operand}
theorem pv_max {ts : Array TypeId} {k : IntKind} {a b : Int} (hx : ev n F x = .int k a) (hy : ev n F y = .int k b) : PV P n w F ⟨d, .call ⟨.builtin .max, #[x, y], ts⟩, ty, pos, aft, g⟩ (.int k (max a b)) := by
  have : (if a < b then b else a) = max a b := by rw [Int.max_def]; split <;> split <;> omega
  simp [PV, execOp, resolve, invoke, builtin, Builtin.max_, Builtin.max2, hx, hy, this]
theorem pf_bts0 {t t' : Nat} (ht : slTy t = some (5, 1)) (ht' : strTy t' = true) (hx : ev n F x = .slice none 0 0) : PV Tryd.prog n w F ⟨d, .convert t t' x, ty, pos, aft, g⟩ (.string (bs [])) := by
  have h1 := run_und (P := Tryd.prog) (w := w) (slTy_ok ht).1
  have h2 := run_und (P := Tryd.prog) (w := w) (strTy_ok ht')
  have h3 := run_und (P := Tryd.prog) (w := w) (intTy_ok (t := 5) (k := .u8) rfl)
  simp only [PV, execOp, convert, hx, Sem.run_bind, h1, h2, Result.andThen_ok, h3]
  rfl
end

attribute [local irreducible] PV StepF wpl wpd WP Ret
attribute [local irreducible] Fit RB

theorem c67 (l : List Nat) (w : World) (hb : Bd 256 l) (hl : l.length ≤ 9223372036854775806) : Ret Tryd.prog 67 [.string (bs l)] w (fun v w' => v = .string (bs (l.dropWhile (· == 0))) ∧ Keeps [] w w') := by
  refine Ret.of_WP Tryd.func67 rfl Tryd.ntmps67 rfl ?_
  have hp := Hp.start (M := []) (w := w)
  (repeat (first | (with_reducible first | apply WP_seq | apply WP_block | apply WP_region | apply wpl_nil | apply thenQ_n) | (apply wlp; apply pv_assign; (first | exact fI rfl | exact fT rfl))))
  refine WP_loopS [3, 4, 5, 6, 7, 8, 9, 10, 11, 12, 13, 14, 15] (fun (k : Nat) F => F.put 3 (.int .i64 (k : Int))) (fun k w' => k ≤ l.length ∧ l.dropWhile (· == 0) = (l.drop k).dropWhile (· == 0) ∧ Hp w [] w' []) (fun k => l.length - k) 0 (put_self (Same.eq .refl) rfl) ⟨Nat.zero_le _, by simp, hp⟩ ?_
  clear hp
  rintro u k w1 ⟨hk, he, hp⟩
  (repeat (with_reducible first | apply WP_seq | apply WP_region))
  (apply wlp; exact pv_move; exact fI rfl)
  (apply wlp; exact pv_move; exact fT rfl)
  (apply wlp; exact pf_lenb rfl rfl; exact fI rfl)
  by_cases hlt : k < l.length
  · have hd : l.drop k = l[k] :: l.drop (k + 1) := List.drop_eq_getElem_cons hlt
    (apply wlp; (exact pv_lss rfl rfl); exact bool_eq (b := true) (decide_eq_true (by omega)))
    (apply wlp; apply pv_move; exact fB rfl)
    (apply wlpT; exact rfl; exact rfl; exact pv_move; exact fT rfl)
    (apply wlpT; exact rfl; exact rfl; exact pv_move; exact fI rfl)
    (apply wlpT; exact rfl; exact rfl; exact pf_at rfl rfl rfl hb hlt; exact fI rfl)
    generalize l[k] = y at hd
    (repeat (first | (with_reducible first | apply wpl_nil | apply thenQ_n) | (apply wlp; (intros; ((first | exact pv_andT rfl rfl | (apply pv_eql; (first | exact rfl | exact ev_sel rfl (by assumption)))) <;> exact rfl)); (intros; exact fB rfl)) | ((apply wlpT; exact rfl; exact rfl); (((first | exact pv_andT rfl rfl | (apply pv_eql; (first | exact rfl | exact ev_sel rfl (by assumption)))) <;> exact rfl)); (intros; exact fB rfl)) | (apply wlpF; exact rfl; exact rfl; exact rfl) | (apply wlpU; exact rfl; exact rfl)))
    refine WP_cond_d rfl (fun h => ?_) (fun h => ?_)
    · (repeat (first | (with_reducible first | apply WP_block | apply WP_region | apply thenQ_n | apply WP_skip) | (apply wlp; apply pv_move; exact fI rfl)))
      (apply wlp; exact pv_add rfl rfl; exact int_eq (i64_in (by omega) (by omega)))
      (repeat (first | (with_reducible first | apply wpl_nil | apply thenQ_n | apply inBlk_n) | (apply wlp; apply pv_assign; exact fI rfl)))
      refine ⟨k + 1, put_self (Same.eq (by repeat (first | exact Same.hav | exact Same.refl | refine Same.put rfl ?_ | refine Same.havs rfl ?_))) rfl, ⟨by omega, ?_, hp⟩, by omega⟩
      have h0 : y = 0 := by omega
      rw [he, hd, h0]
      rfl
    · (repeat (first | (with_reducible first | apply WP_seq | apply WP_region | apply thenQ_n | apply thenQ_exit | apply WP_exit) | ((with_reducible apply inBlk_same); exact rfl) | (apply wlp; apply pv_move; (first | exact fI rfl | exact fT rfl))))
      (apply wlp; exact pf_strLo rfl rfl rfl hk; exact fT rfl)
      (repeat (first | (with_reducible first | apply wpl_nil | apply thenQ_n | apply WP_ret) | (apply wlp; apply pv_assign; exact fT rfl)))
      refine ret_tmp rfl rfl ⟨_, rfl, ?_, hp.keeps⟩
      have h0 : y ≠ 0 := by omega
      have h1 : (l.drop k).dropWhile (· == 0) = l.drop k := by rw [hd]; simp [h0]
      rw [he, h1]
      rfl
  · obtain rfl : k = l.length := by omega
    (apply wlp; (exact pv_lss rfl rfl); exact bool_eq (b := false) (decide_eq_false (by omega)))
    (repeat (first | (with_reducible first | apply wpl_nil | apply thenQ_n) | (apply wlp; (intros; (first | apply pv_move | exact pv_andF rfl)); (intros; exact fB rfl)) | (apply wlpF; exact rfl; exact rfl; exact rfl) | (apply wlpU; exact rfl; exact rfl)))
    refine WP_cond_f rfl ?_
    (repeat (first | (with_reducible first | apply WP_seq | apply WP_region | apply thenQ_n | apply thenQ_exit | apply WP_exit) | ((with_reducible apply inBlk_same); exact rfl) | (apply wlp; apply pv_move; (first | exact fI rfl | exact fT rfl))))
    (apply wlp; exact pf_strLo rfl rfl rfl hk; exact fT rfl)
    (repeat (first | (with_reducible first | apply wpl_nil | apply thenQ_n | apply WP_ret) | (apply wlp; apply pv_assign; exact fT rfl)))
    refine ret_tmp rfl rfl ⟨_, rfl, ?_, hp.keeps⟩
    rw [he, List.drop_length]
    rfl
/-- a canonical string stays -/
theorem c67N (x : Nat) (w : World) (h : Fit x) : Ret Tryd.prog 67 [.string (ofN x)] w (fun v w' => v = .string (ofN x) ∧ Keeps [] w w') := by
  have h8 := h.d8
  have := c67 (digs 256 x).reverse w (Bd.rev (digs_bd (by decide) x)) (by rw [List.length_reverse]; omega)
  rw [canon_digs] at this
  exact this
theorem c40 (a : Int) (w : World) (h2 : a ≤ 9223372036854775807) : Ret Tryd.prog 40 [.int .i64 a] w (fun v w' => v = .string (ofN a.toNat) ∧ Keeps [] w w') := by
  refine Ret.of_WP Tryd.func40 rfl Tryd.ntmps40 rfl ?_
  have hp := (Hp.start (M := []) (w := w)).nilL eB 5 1
  (repeat (first | (with_reducible first | apply WP_seq | apply WP_block | apply WP_region | apply wpl_nil | apply thenQ_n) | (apply wlp; apply pv_assign; (first | exact fI rfl | exact fS rfl | exact fT rfl))))
  by_cases h0 : 0 < a
  · obtain ⟨x, rfl⟩ : ∃ x : Nat, a = x := ⟨a.toNat, by omega⟩
    have hx8 : x < 256 ^ 8 := by
      have : (256 : Nat) ^ 8 = 18446744073709551616 := by decide
      omega
    refine WP_loop3 [3, 4, 5, 6, 7, 8, 9, 10, 11, 12, 13, 14, 15, 16, 17, 18, 19] (fun (j : Nat) (s : Option Addr) (c : Nat) F => (F.put 4 (.int .i64 (8 * (j : Int) - 8))).put 3 (.slice s ((dg 256 x 8).drop j).reverse.length c))
      (fun j s c w' => j ≤ 8 ∧ SVL s c ((dg 256 x 8).drop j).reverse ∧ Hp w [] w' [ownL eB 5 1 s c ((dg 256 x 8).drop j).reverse]) (fun j _ _ => j) 8 none 0 (put_self (put_self (Same.eq .refl) rfl) rfl) ⟨Nat.le_refl _, SVL.nil, hp⟩ ?_
    clear hp
    rintro u j s c w1 ⟨hj, hv, hp⟩
    by_cases hj0 : 0 < j
    · obtain ⟨i, rfl⟩ : ∃ i, j = i + 1 := ⟨j - 1, by omega⟩
      have ei : (8 * ((i + 1 : Nat) : Int) - 8) = ((8 * i : Nat) : Int) := by omega
      rw [ei]
      have hlt : i < (dg 256 x 8).length := by rw [dg_len]; omega
      have hgi := dg_get 256 8 x i (by omega)
      have hdr : ((dg 256 x 8).drop i).reverse = ((dg 256 x 8).drop (i + 1)).reverse ++ [x / 256 ^ i % 256] := by
        rw [List.drop_eq_getElem_cons hlt, List.reverse_cons]
        rw [List.getElem?_eq_getElem hlt] at hgi
        simp only [Option.some.injEq] at hgi
        rw [hgi]
      have hll : ((dg 256 x 8).drop (i + 1)).reverse.length ≤ 8 := by rw [List.length_reverse, List.length_drop, dg_len]; omega
      generalize ((dg 256 x 8).drop (i + 1)).reverse = Z at *
      (repeat (with_reducible first | apply WP_seq | apply WP_region))
      (apply wlp; apply pv_move; exact fI rfl)
      (apply wlp; (exact pv_geq rfl rfl); exact bool_eq (b := true) (decide_eq_true (by omega)))
      (apply wlp; apply pv_move; exact fB rfl)
      (apply wlpT; exact rfl; exact rfl; exact pv_move; exact fI rfl)
      (apply wlpT; exact rfl; exact rfl; (exact pv_gtr rfl rfl); exact bool_eq (b := true) (decide_eq_true (by omega)))
      (repeat (first | (with_reducible first | apply wpl_nil | apply thenQ_n) | (apply wlp; (intros; exact pv_andT rfl rfl); (intros; exact fB rfl)) | (apply wlpF; exact rfl; exact rfl; exact rfl) | (apply wlpU; exact rfl; exact rfl)))
      refine WP_cond_t rfl ?_
      (repeat (first | (with_reducible first | apply WP_seq | apply WP_block | apply WP_region | apply thenQ_n | apply WP_skip) | (apply wlp; apply pv_move; (first | exact fI rfl | exact fS rfl))))
      (apply wlp; exact pn_shr (b := 8 * i) rfl rfl (by show 8 * i ≤ 64; omega); exact int_eq (b := ((x / 256 ^ i : Nat) : Int)) (by rw [show (256 : Nat) ^ i = 2 ^ (8 * i) from by rw [Nat.pow_mul]]))
      (apply wlp; exact pn_8of rfl rfl rfl; exact fI rfl)
      (apply wls; exact sf_slice hp rfl rfl rfl rfl rfl rfl rfl; rintro _ w3 ⟨nb, rfl, hp⟩)
      (apply wls; exact sf_app1 eB Z (x / 256 ^ i % 256) hp 1 0 rfl rfl rfl rfl rfl rfl (fun _ => rfl) rfl rfl rfl hv rfl rfl (by omega); rintro _ w4 ⟨s', c', rfl, hv', hp⟩)
      have hp := hp.tail
      have hp : Hp w [] w4 [ownL eB 5 1 s' c' (Z ++ [x / 256 ^ i % 256])] := hp
      rw [← hdr] at hv' hp ⊢
      (repeat (first | (with_reducible first | apply WP_region | apply wpl_nil | apply thenQ_n | apply inBlk_n) | (apply wlp; (first | apply pv_move | apply pv_assign); (first | exact fI rfl | exact fS rfl))))
      (apply wlp; exact pv_sub rfl rfl; exact int_eq (i64_in (by omega) (by omega)))
      (repeat (first | (with_reducible first | apply wpl_nil | apply thenQ_n) | (apply wlp; apply pv_assign; exact fI rfl)))
      exact ⟨i, s', c', put_self (put_self (Same.eq (by repeat (first | exact Same.hav | exact Same.refl | refine Same.put rfl ?_ | refine Same.havs rfl ?_))) (int_eq (by omega))) rfl, ⟨by omega, hv', hp⟩, by omega⟩
    · obtain rfl : j = 0 := by omega
      rw [List.drop_zero] at hv hp ⊢
      have hne : (dg 256 x 8).reverse ≠ [] := by
        intro h
        have := congrArg List.length h
        rw [List.length_reverse, dg_len] at this
        cases this
      obtain ⟨bb, rfl⟩ := hv.addr hne
      have h67 := c67 (dg 256 x 8).reverse
      rw [strip_dg hx8] at h67
      have hbd : Bd 256 (dg 256 x 8).reverse := Bd.rev (dg_bd (by decide) 8 x)
      (repeat (with_reducible first | apply WP_seq | apply WP_region))
      (apply wlp; apply pv_move; exact fI rfl)
      (apply wlp; (exact pv_geq rfl rfl); exact bool_eq (b := false) (decide_eq_false (by omega)))
      (repeat (first | (with_reducible first | apply wpl_nil | apply thenQ_n) | (apply wlp; (intros; (first | apply pv_move | exact pv_andF rfl)); (intros; exact fB rfl)) | (apply wlpF; exact rfl; exact rfl; exact rfl) | (apply wlpU; exact rfl; exact rfl)))
      refine WP_cond_f rfl ?_
      (repeat (first | (with_reducible first | apply WP_seq | apply WP_region | apply thenQ_n | apply thenQ_exit | apply WP_exit) | ((with_reducible apply inBlk_same); exact rfl) | (apply wlp; (first | apply pv_move | apply pf_conv); exact fS rfl)))
      (apply wlp; exact pf_btsL hp rfl rfl rfl rfl rfl hv; exact fT rfl)
      (apply wls; exact st_call rfl ent67 rfl (h67 _ hbd (by rw [List.length_reverse, dg_len]; decide)); rintro _ w2 ⟨rfl, hk⟩; have hp := hp.call hk)
      (repeat (first | (with_reducible first | apply wpl_nil | apply thenQ_n | apply WP_ret) | (apply wlp; apply pv_assign; exact fT rfl)))
      exact ret_tmp rfl rfl ⟨_, rfl, rfl, hp.keeps⟩
  · have hz : a.toNat = 0 := by omega
    rw [hz]
    refine WP_loopS [3, 4, 5, 6, 7, 8, 9, 10, 11, 12, 13, 14, 15, 16, 17, 18, 19] (fun (_ : Nat) F => (F.put 4 (.int .i64 56)).put 3 (.slice none 0 0)) (fun _ w' => Hp w [] w' [ownL eB 5 1 none 0 []]) (fun _ => 0) 0 (put_self (put_self (Same.eq .refl) rfl) rfl) hp ?_
    clear hp
    rintro u _ w1 hp
    (repeat (with_reducible first | apply WP_seq | apply WP_region))
    (apply wlp; apply pv_move; exact fI rfl)
    (apply wlp; (exact pv_geq rfl rfl); exact bool_eq (b := true) (decide_eq_true (by omega)))
    (apply wlp; apply pv_move; exact fB rfl)
    (apply wlpT; exact rfl; exact rfl; exact pv_move; exact fI rfl)
    (apply wlpT; exact rfl; exact rfl; (exact pv_gtr rfl rfl); exact bool_eq (b := false) (decide_eq_false (by omega)))
    (repeat (first | (with_reducible first | apply wpl_nil | apply thenQ_n) | (apply wlp; (intros; exact pv_andT rfl rfl); (intros; exact fB rfl)) | (apply wlpF; exact rfl; exact rfl; exact rfl) | (apply wlpU; exact rfl; exact rfl)))
    refine WP_cond_f rfl ?_
    (repeat (first | (with_reducible first | apply WP_seq | apply WP_region | apply thenQ_n | apply thenQ_exit | apply WP_exit) | ((with_reducible apply inBlk_same); exact rfl) | (apply wlp; (first | apply pv_move | apply pf_conv); exact fS rfl)))
    (apply wlp; exact pf_bts0 rfl rfl rfl; exact fT rfl)
    (apply wls; exact st_call rfl ent67 rfl (c67 [] _ .nil (by simp)); rintro _ w2 ⟨rfl, hk⟩; have hp := hp.call hk)
    (repeat (first | (with_reducible first | apply wpl_nil | apply thenQ_n | apply WP_ret) | (apply wlp; apply pv_assign; exact fT rfl)))
    exact ret_tmp rfl rfl ⟨_, rfl, rfl, hp.keeps⟩
end Go.Proofs.YteklkjnhefnimaaDoor

/- sortesref01: Int, small, Cmp, of, number; conditions: the numbers are short. -/
namespace Go.Proofs.YteklkjnhefnimaaDoor
open Go.Eng Go.Dig

def eD (d : Nat) : List Value := [.int .i64 (d : Int)]
/-- digits to the base 2^24 -/
def d24 (x : Nat) : List Nat := digs 16777216 x
theorem d24_bd (x : Nat) : Bd 16777216 (d24 x) := digs_bd (by decide) x
theorem d24_val (x : Nat) : val 16777216 (d24 x) = x := digs_val (by decide) x
theorem d24_get {x i : Nat} (h : i < (d24 x).length) : (d24 x)[i] = x / 16777216 ^ i % 16777216 := digs_get (by decide) h
theorem d24_beyond {x i : Nat} (h : (d24 x).length ≤ i) : x / 16777216 ^ i % 16777216 = 0 := digs_beyond (by decide) h
theorem d24_lt {x i : Nat} (h : (d24 x).length ≤ i) : x < 16777216 ^ i := lt_of_len (by decide) h
theorem d24_len {x i : Nat} (h : x < 16777216 ^ i) : (d24 x).length ≤ i := len_of_lt (by decide) h
theorem Fit.d24 {x : Nat} (h : Fit x) : (d24 x).length ≤ 100000 := by
  obtain ⟨k, h1, h2⟩ := h
  exact Nat.le_trans (d24_len (Nat.lt_of_lt_of_le h2 (Nat.pow_le_pow_left (by decide) k))) (by omega)
theorem len_eq {b x m : Nat} (hb : 1 < b) (h1 : b ^ m ≤ x) (h2 : x < b ^ (m + 1)) : (digs b x).length = m + 1 := by
  have h3 := len_of_lt hb h2
  rcases Nat.lt_or_ge (digs b x).length (m + 1) with h | h
  · have := lt_of_len hb (show (digs b x).length ≤ m by omega)
    omega
  · omega
theorem pow_len {x : Nat} (h : x ≠ 0) : 256 ^ ((digs 256 x).length - 1) ≤ x := by
  rcases Nat.lt_or_ge x (256 ^ ((digs 256 x).length - 1)) with h1 | h1
  · have h2 := len_of_lt (b := 256) (by decide) h1
    have h3 : (digs 256 x).length ≠ 0 := by
      intro h4
      exact h ((digs_eq_nil (b := 256) (by decide)).1 (List.eq_nil_of_length_eq_zero h4))
    omega
  · exact h1
theorem pow24 (j : Nat) : 16777216 ^ j = 256 ^ (3 * j) := by rw [Nat.pow_mul]
/-- the number of digits to the base 2^24 -/
theorem d24_eq {x m : Nat} (h1 : 3 * m < (digs 256 x).length) (h2 : (digs 256 x).length ≤ 3 * (m + 1)) : (d24 x).length = m + 1 := by
  have hx : x ≠ 0 := by
    rintro rfl
    simp [digs_zero] at h1
  refine len_eq (by decide) ?_ ?_
  · rw [pow24]
    exact Nat.le_trans (Nat.pow_le_pow_right (by decide) (by omega)) (pow_len hx)
  · rw [pow24]
    exact lt_of_len (by decide) h2
theorem mod_next (y t : Nat) : (y / 256 % 256 ^ t) * 256 + y % 256 = y % 256 ^ (t + 1) := by
  rw [Nat.pow_succ, Nat.mul_comm (256 ^ t) 256, Nat.mod_mul]
  omega
theorem rev_at {x i : Nat} (hi : i < (digs 256 x).length) (h : i < (digs 256 x).reverse.length) : (digs 256 x).reverse[i] = x / 256 ^ ((digs 256 x).length - 1 - i) % 256 := by
  have h1 := b8_rev (x := x) (i := (digs 256 x).length - 1 - i) (by omega) (by rw [List.length_reverse]; omega)
  have e : (digs 256 x).length - 1 - ((digs 256 x).length - 1 - i) = i := by omega
  rw [← h1]
  congr 1
  exact e.symm

attribute [local irreducible] PV StepF wpl wpd WP Ret
attribute [local irreducible] Fit RB

theorem c88 (x : Nat) (w : World) (hl : (digs 256 x).length ≤ 7) (hf : Fit x) : Ret Tryd.prog 88 [.string (ofN x)] w (fun v w' => v = .tuple #[.int .i64 (x : Int), .bool true] ∧ Keeps [] w w') := by
  have hx7 : x < 256 ^ 7 := lt_of_len (by decide) hl
  have e7 : (256 : Nat) ^ 7 = 72057594037927936 := by decide
  have hxl := lt_of_len (b := 256) (by decide) (Nat.le_refl (digs 256 x).length)
  have hbd : Bd 256 (digs 256 x).reverse := Bd.rev (digs_bd (by decide) x)
  have hrl : (digs 256 x).reverse.length = (digs 256 x).length := List.length_reverse
  refine Ret.of_WP Tryd.func88 rfl Tryd.ntmps88 rfl ?_
  have hp := Hp.start (M := []) (w := w)
  (repeat (first | (with_reducible first | apply WP_seq | apply WP_region | apply wpl_nil | apply thenQ_n) | (apply wlp; (first | apply pv_move | apply pv_assign); (first | exact fI rfl | exact fB rfl | exact fT rfl))))
  (apply wls; exact st_call rfl ent67 rfl (c67N x _ hf); rintro _ w1 ⟨rfl, hk⟩; have hp := hp.call hk)
  skip
  (apply wlp; apply pv_assign; exact fT rfl)
  (repeat (with_reducible first | apply WP_seq | apply WP_region | apply wpl_nil | apply thenQ_n))
  (apply wlp; apply pv_move; exact fT rfl)
  (apply wlp; exact pf_lenb rfl rfl; exact int_eq (b := ((digs 256 x).length : Int)) (by rw [hrl]))
  (apply wlp; (exact pv_gtr rfl rfl); exact bool_eq (b := false) (decide_eq_false (by omega)))
  (apply wlp; apply pv_move; exact fB rfl)
  (apply wlpT; exact rfl; exact rfl; exact pv_move; exact fT rfl)
  (apply wlpT; exact rfl; exact rfl; exact pf_lenb rfl rfl; exact int_eq (b := ((digs 256 x).length : Int)) (by rw [hrl]))
  (apply wlpT; exact rfl; exact rfl; (exact pv_eql rfl rfl); exact bool_eq (b := false) (decide_eq_false (by omega)))
  (repeat (first | (with_reducible first | apply wpl_nil | apply thenQ_n) | (apply wlp; (intros; (first | apply pv_move | exact pv_andF rfl | exact pv_orF rfl rfl)); (intros; exact fB rfl)) | ((apply wlpT; exact rfl; exact rfl); ((first | apply pv_move | exact pv_andF rfl | exact pv_orF rfl rfl)); (intros; exact fB rfl)) | (apply wlpF; exact rfl; exact rfl; exact rfl) | (apply wlpU; exact rfl; exact rfl)))
  refine WP_cond_f rfl ?_
  (repeat (first | (with_reducible first | apply WP_seq | apply WP_block | apply WP_region | apply wpl_nil | apply thenQ_n | apply WP_skip) | (apply wlp; apply pv_assign; exact fI rfl)))
  refine WP_loopS [4, 5, 21, 22, 23, 24, 25, 26, 27, 28, 29, 30, 31, 32, 33] (fun (k : Nat) F => (F.put 5 (.int .i64 (k : Int))).put 4 (.int .i64 ((x / 256 ^ ((digs 256 x).length - k) : Nat) : Int))) (fun k w' => k ≤ (digs 256 x).length ∧ Hp w [] w' []) (fun k => (digs 256 x).length - k) 0 (put_self (put_self (Same.eq .refl) rfl) (int_eq (by rw [Nat.sub_zero, Nat.div_eq_of_lt hxl]; rfl))) ⟨Nat.zero_le _, hp⟩ ?_
  clear hp
  rintro u k w2 ⟨hk, hp⟩
  (repeat (with_reducible first | apply WP_seq | apply WP_region))
  (apply wlp; apply pv_move; exact fI rfl)
  (apply wlp; apply pv_move; exact fT rfl)
  (apply wlp; exact pf_lenb rfl rfl; exact int_eq (b := ((digs 256 x).length : Int)) (by rw [hrl]))
  (repeat (first | (with_reducible first | apply wpl_nil | apply thenQ_n) | (apply wlp; (apply pv_lss <;> exact rfl); exact fB rfl)))
  refine WP_cond_d rfl (fun h => ?_) (fun h => ?_)
  · have hlt : k < (digs 256 x).length := by omega
    have hlr : k < (digs 256 x).reverse.length := by omega
    have hra := rev_at hlt hlr
    have hlb := hbd.get hlr
    have hst : x / 256 ^ ((digs 256 x).length - (k + 1)) = x / 256 ^ ((digs 256 x).length - k) * 256 + (digs 256 x).reverse[k] := by
      rw [hra, show (digs 256 x).length - 1 - k = (digs 256 x).length - (k + 1) from by omega, show (digs 256 x).length - k = (digs 256 x).length - (k + 1) + 1 from by omega, Nat.pow_succ, ← Nat.div_div_eq_div_mul]
      omega
    have hle : x / 256 ^ ((digs 256 x).length - (k + 1)) ≤ x := Nat.div_le_self _ _
    (repeat (first | (with_reducible first | apply WP_seq | apply WP_block | apply WP_region | apply thenQ_n | apply WP_skip) | (apply wlp; apply pv_move; exact fI rfl)))
    (apply wlp; exact pv_shl (b := 8) rfl rfl (by decide); exact int_eq (b := ((x / 256 ^ ((digs 256 x).length - k) * 256 : Nat) : Int)) (by
      have e8 : min (8 : Int).toNat IntKind.i64.bits = 8 := by decide
      rw [e8, i64_in (by omega) (by omega)]
      omega))
    (apply wlp; apply pv_move; exact fT rfl)
    (apply wlp; apply pv_move; exact fI rfl)
    (apply wlp; exact pf_at rfl rfl rfl hbd hlr; exact fI rfl)
    (apply wlp; exact pf_conv rfl rfl rfl; exact int_eq (b := (((digs 256 x).reverse[k] : Nat) : Int)) (i64_in (by omega) (by omega)))
    (apply wlp; exact pv_add rfl rfl; exact int_eq (b := ((x / 256 ^ ((digs 256 x).length - (k + 1)) : Nat) : Int)) (by rw [i64_in (by omega) (by omega)]; omega))
    (repeat (first | (with_reducible first | apply WP_region | apply wpl_nil | apply thenQ_n | apply inBlk_n) | (apply wlp; (first | apply pv_move | apply pv_assign); exact fI rfl)))
    (apply wlp; exact pv_add rfl rfl; exact int_eq (i64_in (by omega) (by omega)))
    (repeat (first | (with_reducible first | apply wpl_nil | apply thenQ_n) | (apply wlp; apply pv_assign; exact fI rfl)))
    exact ⟨k + 1, put_self (put_self (Same.eq (by repeat (first | exact Same.hav | exact Same.refl | refine Same.put rfl ?_ | refine Same.havs rfl ?_))) rfl) rfl, ⟨by omega, hp⟩, by omega⟩
  · obtain rfl : k = (digs 256 x).length := by omega
    rw [Nat.sub_self, Nat.pow_zero, Nat.div_one]
    (repeat (first | (with_reducible first | apply WP_seq | apply WP_region | apply wpl_nil | apply thenQ_n | apply thenQ_exit | apply WP_ret | apply WP_exit) | ((with_reducible apply inBlk_same); exact rfl) | (apply wlp; (first | apply pv_move | apply pv_assign); (first | exact fI rfl | exact fB rfl))))
    exact ret_tmp2 rfl rfl rfl ⟨_, rfl, rfl, hp.keeps⟩
theorem c68 (x b : Nat) (w : World) (hb : b ≤ 7) (hf : Fit x) : Ret Tryd.prog 68 [.string (ofN x), .int .i64 (b : Int)] w (fun v w' => (∃ q : Bool, q = decide ((digs 256 x).length ≤ b) ∧ v = .tuple #[.int .i64 (if q then (x : Int) else 0), .bool q]) ∧ Keeps [] w w') := by
  have hrl : (digs 256 x).reverse.length = (digs 256 x).length := List.length_reverse
  refine Ret.of_WP Tryd.func68 rfl Tryd.ntmps68 rfl ?_
  have hp := Hp.start (M := []) (w := w)
  (repeat (first | (with_reducible first | apply WP_seq | apply WP_region | apply wpl_nil | apply thenQ_n) | (apply wlp; (first | apply pv_move | apply pv_assign); (first | exact fI rfl | exact fB rfl | exact fT rfl))))
  (apply wls; exact st_call rfl ent67 rfl (c67N x _ hf); rintro _ w1 ⟨rfl, hk⟩; have hp := hp.call hk)
  (apply wlp; exact pf_lenb (l := (digs 256 x).reverse) rfl rfl; exact int_eq (b := ((digs 256 x).length : Int)) (by rw [hrl]))
  (repeat (first | (with_reducible first | apply wpl_nil | apply thenQ_n) | (apply wlp; ((first | apply pv_move | apply pv_gtr) <;> exact rfl); (first | exact fI rfl | exact fB rfl))))
  refine WP_cond_d rfl (fun h => ?_) (fun h => ?_)
  · (repeat (first | (with_reducible first | apply WP_seq | apply WP_region | apply wpl_nil | apply thenQ_n | apply thenQ_ret | apply WP_ret) | (apply wlp; apply pv_assign; (first | exact fI rfl | exact fB rfl))))
    exact ret_tmp2 rfl rfl rfl ⟨_, rfl, ⟨false, (decide_eq_false (by omega)).symm, rfl⟩, hp.keeps⟩
  · (repeat (first | (with_reducible first | apply WP_seq | apply WP_region | apply thenQ_n | apply WP_skip) | (apply wlp; apply pv_move; exact fT rfl)))
    (apply wls; exact st_call rfl ent88 rfl (c88 x _ (by omega) hf); rintro _ w2 ⟨rfl, hk⟩; have hp := hp.call hk)
    (repeat (first | (with_reducible first | apply wpl_nil | apply thenQ_n | apply WP_ret) | (apply wlp; ((first | apply pv_assign | apply pv_extract) <;> exact rfl); (first | exact fI rfl | exact fB rfl))))
    exact ret_tmp2 rfl rfl rfl ⟨_, rfl, ⟨true, (decide_eq_true (by omega)).symm, rfl⟩, hp.keeps⟩
end Go.Proofs.YteklkjnhefnimaaDoor

/- sortesref01: Cmp, of, number; conditions: the numbers are short. -/
namespace Go.Proofs.YteklkjnhefnimaaDoor
open Go.Eng Go.Dig

theorem vb_cons (x : Nat) (l : List Nat) : val 256 (x :: l).reverse = val 256 l.reverse + 256 ^ l.length * x := by
  rw [List.reverse_cons, val_append, List.length_reverse, val_single]
theorem less_bs : ∀ {l m : List Nat}, Bd 256 l → Bd 256 m → l.length = m.length → Op.bytesLess (l.map UInt8.ofNat) (m.map UInt8.ofNat) = decide (val 256 l.reverse < val 256 m.reverse)
  | [], [], _, _, _ => rfl
  | [], y :: m, _, _, h => by simp at h
  | x :: l, [], _, _, h => by simp at h
  | x :: l, y :: m, hl, hm, h => by
    have ih := less_bs hl.tail hm.tail (by simpa using h)
    have hx := hl.head
    have hy := hm.head
    have h1 := val_lt (Bd.rev hl.tail)
    have h2 := val_lt (Bd.rev hm.tail)
    have hlen : l.length = m.length := by simpa using h
    rw [List.length_reverse] at h1 h2
    rw [vb_cons, vb_cons, ← hlen]
    rw [← hlen] at h2
    have ex : (UInt8.ofNat x).toNat = x := by simp; omega
    have ey : (UInt8.ofNat y).toNat = y := by simp; omega
    simp only [List.map_cons, Op.bytesLess]
    generalize 256 ^ l.length = P at *
    rcases Nat.lt_trichotomy x y with hxy | hxy | hxy
    · have h3 : P * (x + 1) ≤ P * y := Nat.mul_le_mul_left P hxy
      rw [Nat.mul_add] at h3
      have h4 : (UInt8.ofNat x) < (UInt8.ofNat y) := by rw [UInt8.lt_iff_toNat_lt, ex, ey]; exact hxy
      have h5 : val 256 l.reverse + P * x < val 256 m.reverse + P * y := by omega
      simp [h4, h5]
    · subst hxy
      have h4 : ¬ (UInt8.ofNat x) < (UInt8.ofNat x) := by rw [UInt8.lt_iff_toNat_lt]; omega
      simp only [h4, ih]
      simp
    · have h3 : P * (y + 1) ≤ P * x := Nat.mul_le_mul_left P hxy
      rw [Nat.mul_add] at h3
      have h4 : (UInt8.ofNat y) < (UInt8.ofNat x) := by rw [UInt8.lt_iff_toNat_lt, ex, ey]; exact hxy
      have h5 : ¬ (UInt8.ofNat x) < (UInt8.ofNat y) := by rw [UInt8.lt_iff_toNat_lt, ex, ey]; omega
      have h6 : (UInt8.ofNat x) ≠ (UInt8.ofNat y) := by
        intro e
        have := congrArg UInt8.toNat e
        rw [ex, ey] at this
        omega
      have h7 : ¬ val 256 l.reverse + P * x < val 256 m.reverse + P * y := by omega
      rw [decide_eq_false h7, decide_eq_false h5, beq_eq_false_iff_ne.2 h6]
      rfl
section
variable {P : Program} {n : Nat} {F : Fr} {w : World} {d : Option Tmp} {ty : TypeId} {pos : String} {aft : Array Edge} {g : Option (Nat × Bool)} {x y : Operand} {t t' : Nat} {a b : ByteArray}
theorem pv_slss (hx : ev n F x = .string a) (hy : ev n F y = .string b) : PV P n w F ⟨d, .binOp .lss t x y t', ty, pos, aft, g⟩ (.bool (Op.bytesLess a.toList b.toList)) := by
  simp [PV, execOp, hx, hy, eqGuard, binOp, Op.stringOp]
theorem pv_sgtr (hx : ev n F x = .string a) (hy : ev n F y = .string b) : PV P n w F ⟨d, .binOp .gtr t x y t', ty, pos, aft, g⟩ (.bool (!(Op.bytesLess a.toList b.toList || decide (a = b)))) := by
  rw [← bytes_beq]
  simp [PV, execOp, hx, hy, eqGuard, binOp, Op.stringOp]
end
theorem less_ofN {x y : Nat} (h : (digs 256 x).length = (digs 256 y).length) : Op.bytesLess (ofN x).toList (ofN y).toList = decide (x < y) := by
  have e : ∀ z, (ofN z).toList = (digs 256 z).reverse.map UInt8.ofNat := by
    intro z
    rw [ByteArray.toList_eq]
    simp [ofN]
  rw [e, e, less_bs (Bd.rev (digs_bd (by decide) x)) (Bd.rev (digs_bd (by decide) y)) (by simpa using h), List.reverse_reverse, List.reverse_reverse, digs_val (by decide), digs_val (by decide)]

attribute [local irreducible] PV StepF wpl wpd WP Ret
attribute [local irreducible] Fit RB

theorem c50 (x y : Nat) (w : World) (hx : Fit x) (hy : Fit y) : Ret Tryd.prog 50 [.string (ofN x), .string (ofN y)] w (fun v w' => v = .int .i64 (if x < y then -1 else if x = y then 0 else 1) ∧ Keeps [] w w') := by
  have hsx := ofN_size x
  have hsy := ofN_size y
  refine Ret.of_WP Tryd.func50 rfl Tryd.ntmps50 rfl ?_
  have hp := Hp.start (M := []) (w := w)
  (repeat (first | (with_reducible first | apply WP_seq | apply WP_region | apply wpl_nil | apply thenQ_n) | (apply wlp; (first | apply pv_move | apply pv_assign); (first | exact fI rfl | exact fT rfl))))
  (apply wls; exact st_call rfl ent67 rfl (c67N x _ hx); rintro _ w1 ⟨rfl, hk⟩; have hp := hp.call hk)
  (repeat (first | (with_reducible first | apply WP_seq | apply WP_region | apply wpl_nil | apply thenQ_n) | (apply wlp; (first | apply pv_move | apply pv_assign); exact fT rfl)))
  (apply wls; exact st_call rfl ent67 rfl (c67N y _ hy); rintro _ w2 ⟨rfl, hk⟩; have hp := hp.call hk)
  (repeat (first | (with_reducible first | apply WP_seq | apply WP_region | apply wpl_nil | apply thenQ_n) | (apply wlp; ((first | apply pv_move | apply pv_assign | (apply pf_lens; exact rfl) | (apply pv_neq; (first | exact rfl | exact ev_sel rfl (by assumption)))) <;> exact rfl); (first | exact fI rfl | exact fB rfl | exact fT rfl))))
  refine WP_cond_nd rfl (fun h => ?_) (fun h => ?_)
  · (repeat (first | (with_reducible first | apply WP_seq | apply WP_region | apply wpl_nil | apply thenQ_n) | (apply wlp; ((first | apply pv_move | (apply pf_lens; exact rfl) | apply pv_lss) <;> exact rfl); (first | exact fI rfl | exact fB rfl | exact fT rfl))))
    refine WP_cond_d rfl (fun h2 => ?_) (fun h2 => ?_)
    · have hlt : x < y := digs_len_lt (b := 256) (by decide) (by omega)
      (repeat (first | (with_reducible first | apply WP_seq | apply WP_region | apply wpl_nil | apply thenQ_n | apply thenQ_ret | apply WP_ret) | (apply wlp; apply pv_assign; exact fI rfl)))
      exact ret_tmp rfl rfl ⟨_, rfl, int_eq (by rw [if_pos hlt]), hp.keeps⟩
    · have hlt : y < x := digs_len_lt (b := 256) (by decide) (by omega)
      (repeat (first | (with_reducible first | apply WP_seq | apply WP_region | apply wpl_nil | apply thenQ_n | apply thenQ_ret | apply WP_ret | apply WP_skip) | (apply wlp; apply pv_assign; exact fI rfl)))
      exact ret_tmp rfl rfl ⟨_, rfl, int_eq (by rw [if_neg (by omega), if_neg (by omega)]), hp.keeps⟩
  · have hl : (digs 256 x).length = (digs 256 y).length := by omega
    have hle := less_ofN hl
    have heq := ofN_eq x y
    (repeat (first | (with_reducible first | apply WP_seq | apply WP_region | apply thenQ_n | apply WP_skip) | (apply wlp; (first | apply pv_move | apply pv_lss); exact fT rfl)))
    (apply wlp; exact pv_slss rfl rfl; exact bool_eq (b := decide (x < y)) hle)
    (repeat (with_reducible first | apply wpl_nil | apply thenQ_n))
    refine WP_cond_d rfl (fun h2 => ?_) (fun h2 => ?_)
    · (repeat (first | (with_reducible first | apply WP_seq | apply WP_region | apply wpl_nil | apply thenQ_n | apply thenQ_ret | apply WP_ret) | (apply wlp; apply pv_assign; exact fI rfl)))
      exact ret_tmp rfl rfl ⟨_, rfl, int_eq (by rw [if_pos h2]), hp.keeps⟩
    · (repeat (first | (with_reducible first | apply WP_seq | apply WP_region | apply thenQ_n | apply WP_skip) | (apply wlp; (first | apply pv_move | apply pv_gtr); exact fT rfl)))
      (apply wlp; exact pv_sgtr rfl rfl; exact bool_eq (b := (!decide (x = y))) (by rw [hle, heq, decide_eq_false h2]; rfl))
      (repeat (with_reducible first | apply wpl_nil | apply thenQ_n))
      refine WP_cond_nd rfl (fun h3 => ?_) (fun h3 => ?_)
      · (repeat (first | (with_reducible first | apply WP_seq | apply WP_region | apply wpl_nil | apply thenQ_n | apply thenQ_ret | apply WP_ret) | (apply wlp; apply pv_assign; exact fI rfl)))
        exact ret_tmp rfl rfl ⟨_, rfl, int_eq (by rw [if_neg h2, if_neg h3]), hp.keeps⟩
      · (repeat (first | (with_reducible first | apply WP_seq | apply WP_region | apply wpl_nil | apply thenQ_n | apply WP_ret | apply WP_skip) | (apply wlp; apply pv_assign; exact fI rfl)))
        exact ret_tmp rfl rfl ⟨_, rfl, int_eq (by rw [if_neg h2, if_pos h3]), hp.keeps⟩
theorem c69 (x : Nat) (w : World) (hx : Fit x) : Ret Tryd.prog 69 [.string (ofN x)] w (fun v w' => ∃ s c, v = .slice s (d24 x).length c ∧ SVL s c (d24 x) ∧ Hp w [] w' [ownL eD 3 1 s c (d24 x)]) := by
  have hL8 := hx.d8
  have hxl := lt_of_len (b := 256) (by decide) (Nat.le_refl (digs 256 x).length)
  have hbd : Bd 256 (digs 256 x).reverse := Bd.rev (digs_bd (by decide) x)
  have hrl : (digs 256 x).reverse.length = (digs 256 x).length := List.length_reverse
  have hra := fun i hi h => rev_at (x := x) (i := i) hi h
  have hdn : ∀ j, 3 * j < (digs 256 x).length + 3 → (digs 256 x).length ≤ 3 * j → dg 16777216 x j = d24 x := by
    intro j h1 h2
    have hlj : (d24 x).length = j := by
      cases j with
      | zero =>
        have : x = 0 := (digs_eq_nil (b := 256) (by decide)).1 (List.eq_nil_of_length_eq_zero (by omega))
        subst this
        rfl
      | succ m => exact d24_eq (by omega) (by omega)
    have := dg_of_val (d24_bd x)
    rw [d24_val, hlj] at this
    exact this.symm
  refine Ret.of_WP Tryd.func69 rfl Tryd.ntmps69 rfl ?_
  have hp := (Hp.start (M := []) (w := w)).nilL eD 3 1
  (repeat (first | (with_reducible first | apply WP_seq | apply WP_region | apply wpl_nil | apply thenQ_n) | (apply wlp; (first | apply pv_move | apply pv_assign); (first | exact fS rfl | exact fT rfl))))
  (apply wls; exact st_call rfl ent67 rfl (c67N x _ hx); rintro _ w1 ⟨rfl, hk⟩; have hp := hp.call hk)
  skip
  (apply wlp; apply pv_assign; exact fT rfl)
  (repeat (with_reducible first | apply WP_seq | apply WP_region | apply wpl_nil | apply thenQ_n))
  (apply wlp; apply pv_assign; exact fS rfl)
  (repeat (with_reducible first | apply WP_seq | apply WP_region | apply wpl_nil | apply thenQ_n))
  (apply wlp; apply pv_move; exact fT rfl)
  (apply wlp; exact pf_lenb (l := (digs 256 x).reverse) rfl rfl; exact int_eq (b := ((digs 256 x).length : Int)) (by rw [hrl]))
  generalize hL : (digs 256 x).length = L at *
  (repeat (first | (with_reducible first | apply WP_block | apply wpl_nil | apply thenQ_n) | (apply wlp; apply pv_assign; exact fI rfl)))
  refine WP_loop3 [3, 4, 5, 6, 11, 12, 13, 14, 15, 16, 17, 18, 19, 20, 21, 22, 23, 24, 25, 26, 27, 28, 29, 30, 31, 32, 33] (fun (j : Nat) (s : Option Addr) (c : Nat) F => (F.put 4 (.int .i64 ((L : Int) - 3 * j))).put 3 (.slice s (dg 16777216 x j).length c))
    (fun j s c w' => 3 * j < L + 3 ∧ SVL s c (dg 16777216 x j) ∧ Hp w [] w' [ownL eD 3 1 s c (dg 16777216 x j)]) (fun j _ _ => L + 3 - 3 * j) 0 none 0 (put_self (put_self (Same.eq .refl) (int_eq (by omega))) rfl) ⟨by omega, SVL.nil, hp⟩ ?_
  clear hp
  rintro u j s c w2 ⟨hj, hv, hp⟩
  (repeat (first | (with_reducible first | apply WP_seq | apply WP_region | apply wpl_nil | apply thenQ_n) | (apply wlp; ((first | apply pv_move | apply pv_gtr) <;> exact rfl); (first | exact fI rfl | exact fB rfl))))
  refine WP_cond_d rfl (fun h => ?_) (fun h => ?_)
  · obtain ⟨e, he⟩ : ∃ e : Nat, e = L - 3 * j := ⟨_, rfl⟩
    have eL : (L : Int) - 3 * (j : Int) = (e : Int) := by omega
    rw [eL]
    have hll : (dg 16777216 x j).length ≤ 100000 := by rw [dg_len]; omega
    (repeat (first | (with_reducible first | apply WP_seq | apply WP_block | apply WP_region | apply wpl_nil | apply thenQ_n | apply WP_skip) | (apply wlp; (first | apply pv_move | apply pv_assign); exact fI rfl)))
    (apply wlp; exact pv_sub rfl rfl; exact int_eq (i64_in (by omega) (by omega)))
    (apply wlp; exact pv_max rfl rfl; exact int_eq (b := ((e - 3 : Nat) : Int)) (by omega))
    (repeat (first | (with_reducible first | apply WP_block | apply wpl_nil | apply thenQ_n) | (apply wlp; apply pv_assign; exact fI rfl)))
    refine WP_loopS [5, 6, 18, 19, 20, 21, 22, 23, 24, 25, 26, 27, 28, 29] (fun (k : Nat) F => (F.put 6 (.int .i64 (k : Int))).put 5 (.int .i64 ((x / 256 ^ (L - k) % 256 ^ (k - (e - 3)) : Nat) : Int))) (fun k w' => e - 3 ≤ k ∧ k ≤ e ∧ Hp w [] w' [ownL eD 3 1 s c (dg 16777216 x j)]) (fun k => e - k) (e - 3) (put_self (put_self (Same.eq .refl) rfl) (int_eq (by rw [Nat.sub_self, Nat.pow_zero, Nat.mod_one]; rfl))) ⟨Nat.le_refl _, by omega, hp⟩ ?_
    clear hp
    rintro u2 k w3 ⟨hk1, hk2, hp⟩
    (repeat (first | (with_reducible first | apply WP_seq | apply WP_region | apply wpl_nil | apply thenQ_n) | (apply wlp; ((first | apply pv_move | apply pv_lss) <;> exact rfl); (first | exact fI rfl | exact fB rfl))))
    refine WP_cond_d rfl (fun h2 => ?_) (fun h2 => ?_)
    · have hkl : k < (digs 256 x).reverse.length := by omega
      have hrk := hra k (by omega) hkl
      have hlb := hbd.get hkl
      have hmn := mod_next (x / 256 ^ (L - 1 - k)) (k - (e - 3))
      rw [Nat.div_div_eq_div_mul, ← Nat.pow_succ, show (L - 1 - k).succ = L - k from by omega, ← hrk, show k - (e - 3) + 1 = k + 1 - (e - 3) from by omega, show L - 1 - k = L - (k + 1) from by omega] at hmn
      have hd1 : x / 256 ^ (L - k) % 256 ^ (k - (e - 3)) < 65536 := by
        refine Nat.lt_of_lt_of_le (Nat.mod_lt _ (Nat.pow_pos (by decide))) ?_
        exact Nat.le_trans (Nat.pow_le_pow_right (by decide) (show k - (e - 3) ≤ 2 by omega)) (by decide)
      generalize x / 256 ^ (L - k) % 256 ^ (k - (e - 3)) = D at *
      (repeat (first | (with_reducible first | apply WP_seq | apply WP_block | apply WP_region | apply thenQ_n | apply WP_skip) | (apply wlp; apply pv_move; exact fI rfl)))
      (apply wlp; (exact pv_mul rfl rfl); exact int_eq (b := ((D * 256 : Nat) : Int)) (by rw [i64_in (by omega) (by omega)]; omega))
      (apply wlp; apply pv_move; exact fT rfl)
      (apply wlp; apply pv_move; exact fI rfl)
      (apply wlp; exact pf_at rfl rfl rfl hbd hkl; exact fI rfl)
      (apply wlp; exact pf_conv rfl rfl rfl; exact int_eq (b := (((digs 256 x).reverse[k] : Nat) : Int)) (i64_in (by omega) (by omega)))
      (apply wlp; exact pv_add rfl rfl; exact int_eq (b := ((x / 256 ^ (L - (k + 1)) % 256 ^ (k + 1 - (e - 3)) : Nat) : Int)) (by rw [i64_in (by omega) (by omega)]; omega))
      (repeat (first | (with_reducible first | apply WP_region | apply wpl_nil | apply thenQ_n | apply inBlk_n) | (apply wlp; (first | apply pv_move | apply pv_assign); exact fI rfl)))
      (apply wlp; exact pv_add rfl rfl; exact int_eq (i64_in (by omega) (by omega)))
      (repeat (first | (with_reducible first | apply wpl_nil | apply thenQ_n) | (apply wlp; apply pv_assign; exact fI rfl)))
      exact ⟨k + 1, put_self (put_self (Same.eq (by repeat (first | exact Same.hav | exact Same.refl | refine Same.put rfl ?_ | refine Same.havs rfl ?_))) rfl) rfl, ⟨by omega, by omega, hp⟩, by omega⟩
    · obtain rfl : k = e := by omega
      have hdig : x / 256 ^ (L - k) % 256 ^ (k - (k - 3)) = x / 16777216 ^ j % 16777216 := by
        rw [pow24, show L - k = 3 * j from by omega]
        by_cases h3 : 3 ≤ k
        · rw [show k - (k - 3) = 3 from by omega]
        · have h4 : x / 256 ^ (3 * j) < 256 ^ k := by
            rw [Nat.div_lt_iff_lt_mul (Nat.pow_pos (by decide)), ← Nat.pow_add, show k + 3 * j = L from by omega]
            exact hxl
          have h5 : x / 256 ^ (3 * j) < 16777216 := Nat.lt_of_lt_of_le h4 (Nat.le_trans (Nat.pow_le_pow_right (by decide) (show k ≤ 3 by omega)) (by decide))
          rw [show k - (k - 3) = k from by omega, Nat.mod_eq_of_lt h4, Nat.mod_eq_of_lt h5]
      rw [hdig]
      have hsn := dg_snoc 16777216 j x
      (repeat (first | (with_reducible first | apply WP_region | apply thenQ_n | apply thenQ_exit | apply WP_exit) | ((with_reducible apply inBlk_same); exact rfl) | (apply wlp; apply pv_move; (first | exact fI rfl | exact fS rfl))))
      (apply wls; exact sf_slice hp rfl rfl rfl rfl rfl rfl rfl; rintro _ w4 ⟨nb, rfl, hp⟩)
      (apply wls; exact sf_app1 eD (dg 16777216 x j) (x / 16777216 ^ j % 16777216) hp 1 0 rfl rfl rfl rfl rfl rfl (fun _ => rfl) rfl rfl rfl hv rfl rfl (by omega); rintro _ w5 ⟨s', c', rfl, hv', hp⟩)
      have hp := hp.tail
      have hp : Hp w [] w5 [ownL eD 3 1 s' c' (dg 16777216 x j ++ [x / 16777216 ^ j % 16777216])] := hp
      rw [← hsn] at hv' hp ⊢
      (repeat (first | (with_reducible first | apply WP_region | apply wpl_nil | apply thenQ_n | apply inBlk_n) | (apply wlp; (first | apply pv_move | apply pv_assign); (first | exact fI rfl | exact fS rfl))))
      (apply wlp; exact pv_sub rfl rfl; exact int_eq (i64_in (by omega) (by omega)))
      (repeat (first | (with_reducible first | apply wpl_nil | apply thenQ_n) | (apply wlp; apply pv_assign; exact fI rfl)))
      exact ⟨j + 1, s', c', put_self (put_self (Same.eq (by repeat (first | exact Same.hav | exact Same.refl | refine Same.put rfl ?_ | refine Same.havs rfl ?_))) (int_eq (by omega))) rfl, ⟨by omega, hv', hp⟩, by omega⟩
  · rw [hdn j hj (by omega)] at hv hp ⊢
    (repeat (first | (with_reducible first | apply WP_seq | apply WP_region | apply wpl_nil | apply thenQ_n | apply thenQ_exit | apply WP_ret | apply WP_exit) | ((with_reducible apply inBlk_same); exact rfl) | (apply wlp; (first | apply pv_move | apply pv_assign); exact fS rfl)))
    exact ret_tmp rfl rfl ⟨_, rfl, s, c, rfl, hv, hp⟩
theorem num_step {V k : Nat} {l : List Nat} (hb : Bd 16777216 l) (hV : V = val 16777216 l) (hk : k < l.length) : ((dg 256 V (3 * l.length)).drop (3 * k)).reverse = ((dg 256 V (3 * l.length)).drop (3 * (k + 1))).reverse ++ [l[k] / 65536 % 256, l[k] / 256 % 256, l[k] % 256] := by
  have hl : (dg 256 V (3 * l.length)).length = 3 * l.length := dg_len _ _ _
  have hg := l_get hb hk
  rw [← hV, pow24] at hg
  have g : ∀ i, i < 3 → ∀ (h : 3 * k + i < (dg 256 V (3 * l.length)).length), (dg 256 V (3 * l.length))[3 * k + i] = l[k] / 256 ^ i % 256 := by
    intro i hi h
    have h1 := dg_get 256 (3 * l.length) V (3 * k + i) (by omega)
    rw [List.getElem?_eq_getElem h] at h1
    simp only [Option.some.injEq] at h1
    rw [h1, hg, Nat.pow_add, ← Nat.div_div_eq_div_mul]
    generalize V / 256 ^ (3 * k) = y
    have : i = 0 ∨ i = 1 ∨ i = 2 := by omega
    rcases this with rfl | rfl | rfl
    · simp only [Nat.pow_zero, Nat.div_one]; omega
    · simp only [Nat.pow_one]; omega
    · rw [show (256 : Nat) ^ 2 = 65536 from by decide]; omega
  have h0 : 3 * k + 0 < (dg 256 V (3 * l.length)).length := by omega
  have h1 : 3 * k + 1 < (dg 256 V (3 * l.length)).length := by omega
  have h2 : 3 * k + 2 < (dg 256 V (3 * l.length)).length := by omega
  have e0 := g 0 (by decide) h0
  have e1 := g 1 (by decide) h1
  have e2 := g 2 (by decide) h2
  rw [Nat.pow_zero, Nat.div_one] at e0
  rw [Nat.pow_one] at e1
  rw [show (256 : Nat) ^ 2 = 65536 from by decide] at e2
  have d0 := List.drop_eq_getElem_cons h0
  have d1 := List.drop_eq_getElem_cons h1
  have d2 := List.drop_eq_getElem_cons h2
  rw [e0] at d0
  rw [e1] at d1
  rw [e2] at d2
  rw [show 3 * k = 3 * k + 0 from rfl, d0, show 3 * k + 0 + 1 = 3 * k + 1 from rfl, d1, show 3 * k + 1 + 1 = 3 * k + 2 from rfl, d2, show 3 * k + 2 + 1 = 3 * (k + 1) from by omega]
  simp
theorem c70 (l : List Nat) (s : Option Addr) (c : Nat) (w : World) (hs : SlAt w 1 eD s l) (hb : Bd 16777216 l) (hl : l.length ≤ 100000) : Ret Tryd.prog 70 [.slice s l.length c] w (fun v w' => v = .string (ofN (val 16777216 l)) ∧ Keeps [] w w') := by
  obtain ⟨V, hV⟩ : ∃ V, V = val 16777216 l := ⟨_, rfl⟩
  have hVl : V < 256 ^ (3 * l.length) := by rw [hV, ← pow24]; exact val_lt hb
  rw [← hV]
  have hdl := dg_len 256 (3 * l.length) V
  have h67 := c67 (dg 256 V (3 * l.length)).reverse
  rw [strip_dg hVl] at h67
  have hbd : Bd 256 (dg 256 V (3 * l.length)).reverse := Bd.rev (dg_bd (by decide) _ V)
  refine Ret.of_WP Tryd.func70 rfl Tryd.ntmps70 rfl ?_
  have hp := (Hp.start (M := []) (w := w)).nilL eB 5 1
  (repeat (first | (with_reducible first | apply WP_seq | apply WP_region | apply wpl_nil | apply thenQ_n) | (apply wlp; ((first | apply pv_move | apply pv_assign | (apply pf_len; exact rfl)) <;> exact rfl); (first | exact fI rfl | exact fS rfl | exact fT rfl))))
  (apply wlp; exact pv_sub rfl rfl; exact int_eq (i64_in (by omega) (by omega)))
  (repeat (first | (with_reducible first | apply WP_block | apply wpl_nil | apply thenQ_n) | (apply wlp; apply pv_assign; exact fI rfl)))
  refine WP_loop3 [3, 4, 8, 9, 10, 11, 12, 13, 14, 15, 16, 17, 18, 19, 20, 21, 22, 23, 24, 25, 26, 27, 28, 29, 30, 31] (fun (k : Nat) (s : Option Addr) (c : Nat) F => (F.put 4 (.int .i64 ((k : Int) - 1))).put 3 (.slice s ((dg 256 V (3 * l.length)).drop (3 * k)).reverse.length c))
    (fun k s c w' => k ≤ l.length ∧ SVL s c ((dg 256 V (3 * l.length)).drop (3 * k)).reverse ∧ Hp w [] w' [ownL eB 5 1 s c ((dg 256 V (3 * l.length)).drop (3 * k)).reverse]) (fun k _ _ => k) l.length none 0 (put_self (put_self (Same.eq .refl) rfl) (by rw [List.drop_of_length_le (by omega)]; rfl)) ⟨Nat.le_refl _, by rw [List.drop_of_length_le (by omega)]; exact SVL.nil, by rw [List.drop_of_length_le (by omega)]; exact hp⟩ ?_
  clear hp
  rintro u k s2 c2 w1 ⟨hk, hv, hp⟩
  (repeat (first | (with_reducible first | apply WP_seq | apply WP_region | apply wpl_nil | apply thenQ_n) | (apply wlp; ((first | apply pv_move | apply pv_geq) <;> exact rfl); (first | exact fI rfl | exact fB rfl))))
  refine WP_cond_d rfl (fun h => ?_) (fun h => ?_)
  · obtain ⟨j, rfl⟩ : ∃ j, k = j + 1 := ⟨k - 1, by omega⟩
    have hlt : j < l.length := by omega
    have hst := num_step hb hV hlt
    obtain ⟨b0, o0, hs0, hc0⟩ := hs.base (by omega)
    have hci := hc0 j _ (List.getElem?_eq_getElem hlt) 0 _ rfl
    have hdb := hb.get hlt
    have ej : ((j + 1 : Nat) : Int) - 1 = (j : Int) := by omega
    rw [ej]
    generalize l[j] = D at *
    have hci : w.cell? ⟨b0, o0 + j * 1, none⟩ = some (.int .i64 (D : Int)) := hci
    have hll : ((dg 256 V (3 * l.length)).drop (3 * (j + 1))).reverse.length ≤ 300000 := by rw [List.length_reverse, List.length_drop]; omega
    generalize ((dg 256 V (3 * l.length)).drop (3 * (j + 1))).reverse = Z at *
    (repeat (with_reducible first | apply WP_seq | apply WP_block | apply thenQ_n | apply WP_skip))
    refine WP_drawS mixed (by kernel_rfl) (fun w' => Hp w [] w' _) hp.drew ?_
    have hp := hp.drew
    (repeat ((apply wdp; exact rfl); (intro w hp; intros; ((first | apply pv_move | (apply pf_load; exact rfl) | (apply pf_index; exact rfl)) <;> (first | exact rfl | assumption | exact hp.old0 (by assumption)))); (intros; (first | exact fI rfl | exact fP rfl | exact fS rfl))))
    (apply wdp; exact rfl; (intro w hp; exact pn_shr (b := 16) rfl rfl (by decide)); exact int_eq (b := ((D / 65536 : Nat) : Int)) rfl)
    (apply wdp; exact rfl; (intro w hp; exact pn_8of rfl rfl rfl); exact fI rfl)
    (repeat ((apply wdp; exact rfl); (intro w hp; intros; ((first | apply pv_move | (apply pf_load; exact rfl) | (apply pf_index; exact rfl)) <;> (first | exact rfl | assumption | exact hp.old0 (by assumption)))); (intros; (first | exact fI rfl | exact fP rfl | exact fS rfl))))
    (apply wdp; exact rfl; (intro w hp; exact pn_shr (b := 8) rfl rfl (by decide)); exact int_eq (b := ((D / 256 : Nat) : Int)) rfl)
    (apply wdp; exact rfl; (intro w hp; exact pn_8of rfl rfl rfl); exact fI rfl)
    (apply wdp; exact rfl; (intro w hp; exact pv_move); exact fS rfl)
    (apply wdp; exact rfl; (intro w hp; exact pv_move); exact fI rfl)
    (apply wdp; exact rfl; (intro w hp; exact pf_index rfl rfl rfl hs0 hlt); exact fP rfl)
    (apply wdp; exact rfl; (intro w hp; exact pf_load rfl rfl (hp.old0 hci)); exact fI rfl)
    (apply wdp; exact rfl; (intro w hp; exact pn_8of rfl rfl rfl); exact fI rfl)
    (apply wds; exact rfl; exact sf_slice hp rfl rfl rfl rfl rfl rfl rfl; rintro _ w2 ⟨nb, rfl, hp⟩; refine ⟨hp.tail, ?_⟩)
    have hsn : SlAt w2 1 eB (some ⟨nb, 0, none⟩) [D / 65536 % 256, D / 256 % 256, D % 256] := blk_SlAt [D / 65536 % 256, D / 256 % 256, D % 256] hp 0 rfl (fun _ => rfl)
    (apply wdsS; exact rfl; exact rfl; exact sf_app eB Z [D / 65536 % 256, D / 256 % 256, D % 256] hp 1 rfl rfl rfl rfl rfl rfl (fun _ => rfl) rfl rfl rfl hv hsn (fun _ => rfl) (by show Z.length + 3 < 1000000; omega); rintro _ w3 ⟨s', c', rfl, hv', hp⟩)
    (repeat ((apply wdp; exact rfl); (intro w hp; intros; apply pv_assign); (intros; exact fS rfl)))
    refine wpd_nil ?_
    have hp := hp.tail
    have hp : Hp w [] w3 [ownL eB 5 1 s' c' (Z ++ [D / 65536 % 256, D / 256 % 256, D % 256])] := hp
    rw [← hst] at hv' hp ⊢
    (repeat (first | (with_reducible first | apply WP_region | apply thenQ_n | apply inBlk_n) | (apply wlp; apply pv_move; exact fI rfl)))
    (apply wlp; exact pv_sub rfl rfl; exact int_eq (i64_in (by omega) (by omega)))
    (repeat (first | (with_reducible first | apply wpl_nil | apply thenQ_n) | (apply wlp; apply pv_assign; exact fI rfl)))
    exact ⟨j, s', c', put_self (put_self (Same.eq (by repeat (first | exact Same.hav | exact Same.refl | refine Same.put rfl ?_ | refine Same.havs rfl ?_))) rfl) rfl, ⟨by omega, hv', hp⟩, by omega⟩
  · obtain rfl : k = 0 := by omega
    rw [Nat.mul_zero, List.drop_zero] at hv hp ⊢
    by_cases hl0 : l.length = 0
    · have hn : (dg 256 V (3 * l.length)).reverse = [] := List.eq_nil_of_length_eq_zero (by rw [List.length_reverse]; omega)
      rw [hn] at h67 hv hp ⊢
      rcases hv with ⟨e1, _⟩ | ⟨g, cap, e1, _⟩
      · injection e1 with e2 _ e3
        subst e2 e3
        (repeat (first | (with_reducible first | apply WP_seq | apply WP_region | apply thenQ_n | apply thenQ_exit | apply WP_exit) | ((with_reducible apply inBlk_same); exact rfl) | (apply wlp; (first | apply pv_move | apply pf_conv); exact fS rfl)))
        (apply wlp; exact pf_bts0 rfl rfl rfl; exact fT rfl)
        (apply wls; exact st_call rfl ent67 rfl (h67 _ .nil (by simp)); rintro _ w2 ⟨rfl, hk⟩; have hp := hp.call hk)
        (repeat (first | (with_reducible first | apply wpl_nil | apply thenQ_n | apply WP_ret) | (apply wlp; apply pv_assign; exact fT rfl)))
        exact ret_tmp rfl rfl ⟨_, rfl, rfl, hp.keeps⟩
      · injection e1 with e2 _ e3
        subst e2
        (repeat (first | (with_reducible first | apply WP_seq | apply WP_region | apply thenQ_n | apply thenQ_exit | apply WP_exit) | ((with_reducible apply inBlk_same); exact rfl) | (apply wlp; (first | apply pv_move | apply pf_conv); exact fS rfl)))
        (apply wlp; exact pf_btsL hp rfl rfl rfl rfl rfl (.inr ⟨g, cap, by rw [e3], by assumption⟩); exact fT rfl)
        (apply wls; exact st_call rfl ent67 rfl (h67 _ .nil (by simp)); rintro _ w2 ⟨rfl, hk⟩; have hp := hp.call hk)
        (repeat (first | (with_reducible first | apply wpl_nil | apply thenQ_n | apply WP_ret) | (apply wlp; apply pv_assign; exact fT rfl)))
        exact ret_tmp rfl rfl ⟨_, rfl, rfl, hp.keeps⟩
    · have hne : (dg 256 V (3 * l.length)).reverse ≠ [] := by
        intro h
        have := congrArg List.length h
        rw [List.length_reverse, hdl] at this
        simp at this
        omega
      obtain ⟨bb, rfl⟩ := hv.addr hne
      (repeat (first | (with_reducible first | apply WP_seq | apply WP_region | apply thenQ_n | apply thenQ_exit | apply WP_exit) | ((with_reducible apply inBlk_same); exact rfl) | (apply wlp; (first | apply pv_move | apply pf_conv); exact fS rfl)))
      (apply wlp; exact pf_btsL hp rfl rfl rfl rfl rfl hv; exact fT rfl)
      (apply wls; exact st_call rfl ent67 rfl (h67 _ hbd (by rw [List.length_reverse, hdl]; omega)); rintro _ w2 ⟨rfl, hk⟩; have hp := hp.call hk)
      (repeat (first | (with_reducible first | apply wpl_nil | apply thenQ_n | apply WP_ret) | (apply wlp; apply pv_assign; exact fT rfl)))
      exact ret_tmp rfl rfl ⟨_, rfl, rfl, hp.keeps⟩
end Go.Proofs.YteklkjnhefnimaaDoor
