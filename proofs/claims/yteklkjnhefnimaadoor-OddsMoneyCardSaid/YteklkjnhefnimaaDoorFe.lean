/- sortesref18: mod, Made; conditions: the tiers lie in memory. -/
import Derived.Test.YteklkjnhefnimaaDoorEk
namespace Go.Proofs.YteklkjnhefnimaaDoor
open Go.Eng Go.Dig

/-- plain: the tiers of a made lottery, and what is left of 100 per cent -/
def mkT (pick : Int) : Int → List (Int × Int) → List (Int × Int)
  | _, [] => []
  | left, t :: l => (t.1 % (pick + 1), t.2 % (left + 1)) :: mkT pick (left - t.2 % (left + 1)) l
def lft : Int → List (Int × Int) → Int
  | left, [] => left
  | left, t :: l => lft (left - t.2 % (left + 1)) l
theorem mkT_app (pick : Int) (t : Int × Int) : ∀ (l : List (Int × Int)) (left : Int), mkT pick left (l ++ [t]) = mkT pick left l ++ [(t.1 % (pick + 1), t.2 % (lft left l + 1))]
  | [], left => rfl
  | u :: l, left => by
    simp only [List.cons_append, mkT, lft]
    rw [mkT_app pick t l]
theorem lft_app (t : Int × Int) : ∀ (l : List (Int × Int)) (left : Int), lft left (l ++ [t]) = lft left l - t.2 % (lft left l + 1)
  | [], left => rfl
  | u :: l, left => by
    simp only [List.cons_append, lft]
    rw [lft_app t l]
theorem lft_bd : ∀ (l : List (Int × Int)) (left : Int), 0 ≤ left → 0 ≤ lft left l ∧ lft left l ≤ left
  | [], left, h => ⟨h, Int.le_refl _⟩
  | t :: l, left, h => by
    have h1 := Int.emod_nonneg t.2 (show left + 1 ≠ 0 by omega)
    have h2 := Int.emod_lt_of_pos t.2 (show 0 < left + 1 by omega)
    have := lft_bd l (left - t.2 % (left + 1)) (by omega)
    rw [lft]
    omega
theorem mkT_len (pick : Int) : ∀ (l : List (Int × Int)) (left : Int), (mkT pick left l).length = l.length
  | [], _ => rfl
  | t :: l, left => by simp [mkT, mkT_len pick l]
theorem mkT_sum (pick : Int) : ∀ (l : List (Int × Int)) (left : Int), sumT (mkT pick left l) = left - lft left l
  | [], left => by simp [mkT, sumT, lft]
  | t :: l, left => by
    simp only [mkT, sumT, lft]
    rw [mkT_sum pick l]
    omega
theorem mkT_ok (pick : Int) : ∀ (l : List (Int × Int)) (left : Int), 0 ≤ left → left ≤ 100 → (mkT pick left l).all okT = true
  | [], _, _, _ => rfl
  | t :: l, left, h, h2 => by
    have h3 := Int.emod_nonneg t.2 (show left + 1 ≠ 0 by omega)
    have h4 := Int.emod_lt_of_pos t.2 (show 0 < left + 1 by omega)
    simp only [mkT, List.all_cons, Bool.and_eq_true]
    refine ⟨?_, mkT_ok pick l _ (by omega) (by omega)⟩
    unfold okT
    simp
    omega
/-- a made lottery is plain -/
theorem made_plain {pool pick : Int} (l : List (Int × Int)) (h1 : 0 ≤ pool) (h2 : pool ≤ 60) (h3 : 0 ≤ pick) (h4 : pick ≤ pool) (hl : l.length ≤ 12) : plB 1 pool pick (mkT pick 100 l) = true := by
  unfold plB
  have h5 := lft_bd l 100 (by decide)
  rw [decide_eq_true (by omega), mkT_len, decide_eq_true hl, mkT_ok pick l 100 (by decide) (by decide), mkT_sum, decide_eq_true (by omega)]
  rfl
theorem emod_of {n m : Int} (hm : 0 < m) : (n.tmod m + m).tmod m = n % m ∧ 0 ≤ n.tmod m + m ∧ n.tmod m + m < 2 * m := by
  have h1 := Int.tmod_lt_of_pos n hm
  have h2 := Int.lt_tmod_of_pos n hm
  refine ⟨?_, by omega, by omega⟩
  rw [Int.tmod_eq_emod_of_nonneg (by omega), Int.add_emod_right]
  conv => rhs; rw [← Int.mul_tdiv_add_tmod n m]
  rw [Int.add_comm, Int.add_mul_emod_self_left]

attribute [local irreducible] PV StepF wpl wpd WP Ret
attribute [local irreducible] Fit RB

theorem c56 (n m : Int) (w : World) (hm : 0 < m) (hm2 : m ≤ 4611686018427387904) : Ret Tryd.prog 56 [.int .i64 n, .int .i64 m] w (fun v w' => v = .int .i64 (n % m) ∧ Keeps [] w w') := by
  obtain ⟨h1, h2, h3⟩ := emod_of (n := n) hm
  refine Ret.of_WP Tryd.func56 rfl Tryd.ntmps56 rfl ?_
  have hp := Hp.start (M := []) (w := w)
  (repeat (first | (with_reducible first | apply WP_seq | apply WP_region | apply wpl_nil | apply thenQ_n) | (apply wlp; (first | apply pv_move | apply pv_assign); exact fI rfl)))
  (apply wlp; exact pv_rem rfl rfl (by omega); exact fI rfl)
  (repeat (apply wlp; apply pv_move; exact fI rfl))
  (apply wlp; exact pv_add rfl rfl; exact int_eq (i64_in (by omega) (by omega)))
  (repeat (apply wlp; apply pv_move; exact fI rfl))
  (apply wlp; exact pv_rem rfl rfl (by omega); exact int_eq h1)
  (repeat (first | (with_reducible first | apply wpl_nil | apply thenQ_n | apply WP_ret) | (apply wlp; apply pv_assign; exact fI rfl)))
  exact ret_tmp rfl rfl ⟨_, rfl, rfl, hp.keeps⟩
theorem c27 (pool pick : Int) (ts : List (Int × Int)) (s : Option Addr) (c : Nat) (w : World) (hs : SlAt w 2 eT s ts) (hl : ts.length ≤ 9223372036854775806) :
    Ret Tryd.prog 27 [.int .i64 pool, .int .i64 pick, .slice s ts.length c] w (fun v w' => ∃ s' c', v = .agg (dw ⟨#[108, 111, 116, 116, 111]⟩ 1 3 5 (pool % 61) (pick % (pool % 61 + 1)) s' (mkT (pick % (pool % 61 + 1)) 100 (ts.take 6)).length c').toArray ∧ SVL s' c' (mkT (pick % (pool % 61 + 1)) 100 (ts.take 6)) ∧ Hp w [] w' [ownL eT 57 2 s' c' (mkT (pick % (pool % 61 + 1)) 100 (ts.take 6))]) := by
  have hp1 := Int.emod_nonneg pool (show (61 : Int) ≠ 0 by decide)
  have hp2 := Int.emod_lt_of_pos pool (show (0 : Int) < 61 by decide)
  generalize hpo : pool % 61 = N at *
  have hk1 := Int.emod_nonneg pick (show N + 1 ≠ 0 by omega)
  have hk2 := Int.emod_lt_of_pos pick (show 0 < N + 1 by omega)
  have h56 := c56 pick (N + 1)
  generalize hpi : pick % (N + 1) = K at *
  refine Ret.of_WP Tryd.func27 rfl Tryd.ntmps27 rfl ?_
  have hp := (Hp.start (M := []) (w := w)).nilL eT 57 2
  (repeat (with_reducible first | apply WP_seq | apply WP_region))
  (apply wls; exact salloc13 hp (zeroTy_ok rfl); rintro _ w1 ⟨b6, rfl, hp⟩)
  (repeat (first | (with_reducible first | apply WP_seq | apply WP_region | apply wpl_nil | apply thenQ_n) | (apply wlp; apply pv_move; exact fI rfl)))
  (apply wls; exact st_call rfl ent56 rfl (c56 pool 61 _ (by decide) (by decide)); rintro _ w2 ⟨rfl, hk⟩; have hp := hp.call hk)
  rw [hpo]
  (repeat (apply wlp; ((apply pf_build; exact rfl) <;> exact rfl); exact fA13 rfl))
  (apply wls; exact salloc13 hp (zeroTy_ok rfl); rintro _ w3 ⟨b7, rfl, hp⟩)
  (apply wls0; exact sstore13 hp 0 rfl rfl rfl rfl (sizeTy_ok rfl) rfl; rintro _ w4 ⟨rfl, hp⟩)
  have hp := hp.norm 0 (dw ⟨#[108, 111, 116, 116, 111]⟩ 1 3 5 N 0 none 0 0) rfl rfl
  (repeat (first | (with_reducible first | apply WP_seq | apply WP_region | apply wpl_nil | apply thenQ_n) | (apply wlp; ((first | apply pv_move | apply pf_field | (apply pf_load; exact rfl)) <;> (first | exact rfl | exact hp.cell 0 rfl rfl)); (first | exact fI rfl | exact fP rfl))))
  (apply wlp; exact pv_add rfl rfl; exact int_eq (i64_in (by omega) (by omega)))
  (apply wls; exact st_call rfl ent56 rfl (h56 _ (by omega) (by omega)); rintro _ w5 ⟨rfl, hk⟩; have hp := hp.call hk)
  (repeat (apply wlp; (apply pf_field <;> exact rfl); exact fP rfl))
  (apply wls0; exact sstore1 hp 0 rfl rfl rfl rfl (sizeTy_ok rfl) rfl; rintro _ w6 ⟨rfl, hp⟩)
  have hp := hp.norm 0 (dw ⟨#[108, 111, 116, 116, 111]⟩ 1 3 5 N K none 0 0) rfl rfl
  have hp : Hp w [] w6 [blk b7 13 (frOf (dw ⟨#[108, 111, 116, 116, 111]⟩ 1 3 5 N K none ([] : List (Int × Int)).length 0)) 50, blk b6 13 (frOf (dw ⟨#[]⟩ 0 0 0 0 0 none 0 0)) 50, ownL eT 57 2 none 0 []] := hp
  (repeat (first | (with_reducible first | apply WP_seq | apply WP_block | apply WP_region | apply wpl_nil | apply thenQ_n) | (apply wlp; apply pv_assign; exact fI rfl)))
  refine WP_loop3 [8, 9, 10, 20, 21, 22, 23, 24, 25, 26, 27, 28, 29, 30, 31, 32, 33, 34, 35, 36, 37, 38, 39, 40, 41, 42, 43, 44, 45, 46, 47, 48, 49, 50, 51, 52, 53, 54, 55, 56] (fun (i : Nat) (_ : Option Addr) (_ : Nat) F => (F.put 9 (.int .i64 (i : Int))).put 8 (.int .i64 (lft 100 (ts.take i))))
    (fun i s' c' w' => i ≤ ts.length ∧ i ≤ 6 ∧ SVL s' c' (mkT K 100 (ts.take i)) ∧ Hp w [] w' [blk b7 13 (frOf (dw ⟨#[108, 111, 116, 116, 111]⟩ 1 3 5 N K s' (mkT K 100 (ts.take i)).length c')) 50, blk b6 13 (frOf (dw ⟨#[]⟩ 0 0 0 0 0 none 0 0)) 50, ownL eT 57 2 s' c' (mkT K 100 (ts.take i))]) (fun i _ _ => 6 - i) 0 none 0 (put_self (put_self (Same.eq .refl) rfl) rfl) ⟨Nat.zero_le _, by decide, SVL.nil, hp⟩ ?_
  clear hp
  rintro u i s' c' w7 ⟨hi, hi6, hv, hp⟩
  (repeat (first | (with_reducible first | apply WP_seq | apply WP_region | apply wpl_nil | apply thenQ_n) | ((first | apply wlp | (apply wlg; exact rfl; exact rfl)); (intros; ((first | apply pv_move | (apply pf_len; exact rfl) | exact pv_and rfl rfl rfl | apply pv_lss) <;> (first | exact rfl | exact ev_sel rfl (by assumption)))); (intros; (first | exact fI rfl | exact fB rfl | exact fS rfl)))))
  refine WP_cond rfl (fun h => ?_) (fun h => ?_)
  · have hlt : i < ts.length ∧ i < 6 := by simp at h; omega
    obtain ⟨hlt, hlt6⟩ := hlt
    obtain ⟨b0, o0, hs0, hc0⟩ := hs.base (by omega)
    have hci := hc0 i _ (List.getElem?_eq_getElem hlt)
    have htk := List.take_succ_eq_append_getElem hlt
    generalize ts[i] = t at hci htk
    obtain ⟨tm, tp⟩ := t
    have hcm : w.cell? ⟨b0, o0 + i * 2 + 0 * 1, none⟩ = some (.int .i64 tm) := hci 0 _ rfl
    have hcp : w.cell? ⟨b0, o0 + i * 2 + 1 * 1, none⟩ = some (.int .i64 tp) := hci 1 _ rfl
    have hlb := lft_bd (ts.take i) 100 (by decide)
    have hmt := mkT_app K (tm, tp) (ts.take i) 100
    have hlf := lft_app (tm, tp) (ts.take i) 100
    rw [← htk] at hmt hlf
    generalize lft 100 (ts.take i) = L at *
    have hq1 := Int.emod_nonneg tp (show L + 1 ≠ 0 by omega)
    have hq2 := Int.emod_lt_of_pos tp (show 0 < L + 1 by omega)
    have h56p := c56 tp (L + 1)
    have h56m := c56 tm (K + 1)
    have hml : (mkT K 100 (ts.take i)).length ≤ 6 := by rw [mkT_len, List.length_take]; omega
    generalize hpq : tp % (L + 1) = q at *
    generalize hmq : tm % (K + 1) = mm at *
    generalize mkT K 100 (ts.take i) = T at *
    (repeat (first | (with_reducible first | apply WP_seq | apply WP_block | apply WP_region | apply thenQ_n | apply WP_skip) | (apply wlp; ((first | apply pv_move | (apply pf_index; exact rfl) | (apply pf_index_a; exact rfl)) <;> (first | exact rfl | assumption)); (first | exact fI rfl | exact fP rfl | exact fS rfl))))
    (apply wlp; exact pf_index_a (i := 1) rfl rfl rfl (by decide); exact fP rfl)
    (repeat (apply wlp; ((first | apply pv_move | (apply pf_load; exact rfl)) <;> (first | exact rfl | exact hp.old0 (by assumption))); exact fI rfl))
    (apply wlp; exact pv_add rfl rfl; exact int_eq (i64_in (by omega) (by omega)))
    (apply wls; exact st_call rfl ent56 rfl (h56p _ (by omega) (by omega)); rintro _ w8 ⟨rfl, hk⟩; have hp := hp.call hk)
    (repeat (first | (with_reducible first | apply WP_seq | apply WP_region | apply wpl_nil | apply thenQ_n) | (apply wlp; (first | apply pv_move | apply pv_assign); exact fI rfl)))
    (apply wlp; exact pv_sub rfl rfl; exact int_eq (i64_in (by omega) (by omega)))
    (repeat (first | (with_reducible first | apply wpl_nil | apply thenQ_n) | (apply wlp; apply pv_assign; exact fI rfl)))
    refine WP_drawS mixed (by kernel_rfl) (fun w' => Hp w [] w' _) hp.drew ?_
    have hp := hp.drew
    (repeat ((apply wdp; exact rfl); (intro w hp; intros; ((first | apply pv_move | apply pf_field | (apply pf_load; exact rfl) | (apply pf_index; exact rfl) | (apply pf_index_a; exact rfl)) <;> (first | exact rfl | assumption | exact hp.cell 0 rfl rfl))); (intros; (first | exact fI rfl | exact fP rfl | exact fS rfl))))
    (apply wdp; exact rfl; (intro w hp; exact pf_index_a (i := 0) rfl rfl rfl (by decide)); exact fP rfl)
    (repeat ((apply wdp; exact rfl); (intro w hp; intros; ((first | apply pf_field | (apply pf_load; exact rfl)) <;> (first | exact rfl | exact hp.cell 0 rfl rfl | exact hp.old0 (by assumption)))); (intros; (first | exact fI rfl | exact fP rfl))))
    (apply wdp; exact rfl; (intro w hp; exact pv_add rfl rfl); exact int_eq (i64_in (by omega) (by omega)))
    (apply wds; exact rfl; exact st_call rfl ent56 rfl (h56m _ (by omega) (by omega)); rintro _ w9 ⟨rfl, hk⟩; have hp := hp.call hk; refine ⟨hp, ?_⟩)
    (repeat ((apply wdp; exact rfl); (intro w hp; intros; ((first | apply pv_move | (apply pf_build; exact rfl)) <;> exact rfl)); (intros; (first | exact fI rfl | exact fA2 rfl))))
    (apply wds; exact rfl; exact sf_slice hp rfl rfl rfl rfl rfl rfl rfl; rintro _ w10 ⟨nb, rfl, hp⟩; refine ⟨hp.tail, ?_⟩)
    (apply wdsS; exact rfl; exact rfl; exact sf_app1 eT T (mm, q) hp 3 0 rfl rfl rfl rfl rfl rfl (fun _ => rfl) rfl rfl rfl hv rfl rfl (by omega); rintro _ w11 ⟨s2, c2, rfl, hv2, hp⟩)
    (repeat ((apply wdp; exact rfl); (intro w hp; intros; (apply pf_field <;> exact rfl)); (intros; exact fP rfl)))
    (apply wds0S; exact rfl; exact rfl; exact sstore1 hp 1 rfl rfl rfl rfl (sizeTy_ok rfl) rfl; rintro _ w12 ⟨rfl, hp⟩)
    refine wpd_nil ?_
    have hp := hp.norm 1 (dw ⟨#[108, 111, 116, 116, 111]⟩ 1 3 5 N K s2 (T ++ [(mm, q)]).length c2) rfl rfl
    have hp := hp.tail
    have hp : Hp w [] w12 [blk b7 13 (frOf (dw ⟨#[108, 111, 116, 116, 111]⟩ 1 3 5 N K s2 (T ++ [(mm, q)]).length c2)) 50, blk b6 13 (frOf (dw ⟨#[]⟩ 0 0 0 0 0 none 0 0)) 50, ownL eT 57 2 s2 c2 (T ++ [(mm, q)])] := hp
    (repeat (first | (with_reducible first | apply WP_region | apply thenQ_n | apply inBlk_n) | (apply wlp; apply pv_move; exact fI rfl)))
    (apply wlp; exact pv_add rfl rfl; exact int_eq (i64_in (by omega) (by omega)))
    (repeat (first | (with_reducible first | apply wpl_nil | apply thenQ_n) | (apply wlp; apply pv_assign; exact fI rfl)))
    refine ⟨i + 1, s2, c2, put_self (put_self (Same.eq (by repeat (first | exact Same.hav | exact Same.refl | refine Same.put rfl ?_ | refine Same.havs rfl ?_))) rfl) (int_eq ?_), ⟨by omega, by omega, ?_, ?_⟩, by omega⟩
    · rw [hlf]
    · rw [hmt]
      exact hv2
    · rw [hmt]
      exact hp
  · have hte : ts.take i = ts.take 6 := by
      have h2 : i = ts.length ∨ i = 6 := by simp at h; omega
      rcases h2 with rfl | rfl
      · rw [List.take_length, List.take_of_length_le (by omega)]
      · rfl
    rw [hte] at hv hp
    (repeat (first | (with_reducible first | apply WP_seq | apply WP_region | apply thenQ_n | apply thenQ_exit | apply WP_exit) | ((with_reducible apply inBlk_same); exact rfl) | (apply wlp; ((apply pf_loadb; exact rfl) <;> (first | exact rfl | exact hp.agg_blk 0 rfl rfl)); exact fA13 rfl)))
    (apply wls0; exact sstore13 hp 1 rfl rfl rfl rfl (sizeTy_ok rfl) rfl; rintro _ w8 ⟨rfl, hp⟩)
    (repeat (with_reducible first | apply wpl_nil | apply thenQ_n | apply WP_ret))
    refine ret_cell rfl rfl rfl rfl (hp.agg_blk 1 rfl rfl) ⟨_, rfl, s', c', rfl, hv, ?_⟩
    exact hp.picks [2] _ rfl rfl
end Go.Proofs.YteklkjnhefnimaaDoor
