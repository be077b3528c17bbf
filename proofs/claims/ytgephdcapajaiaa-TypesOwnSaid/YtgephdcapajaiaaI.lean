/- Layer 14: the reference's Check answers as types.Check; the law's "is"; conditions: the rules lie in memory, sizes of strings are ints. -/
import Derived.Test.YtgephdcapajaiaaH
namespace Go.Proofs.Ytgephdcapajaiaa
open Go.Eng
attribute [local irreducible] PV StepF wpl wpd WP Ret

structure DrSz (d : Dr) : Prop where
  name : d.name.size ≤ 9223372036854775807
  places : ∀ p ∈ d.places, p.1.size ≤ 9223372036854775807
  quotas : ∀ p ∈ d.quotas, p.1.size ≤ 9223372036854775807

theorem chk_at {d : Dr} {i : Nat} (hi : i < 12) (h : ∀ j, j < i → clBad d j = false) (h2 : clBad d i = true) : chk d = (clN i, clR d i) := by
  unfold chk
  rw [find_range hi h h2]
theorem chk_ok {d : Dr} (h : ∀ j, j < 12 → clBad d j = false) : chk d = (⟨#[]⟩, 0) := by
  unfold chk
  rw [find_none h]
theorem bad_of {d : Dr} {i : Nat} (hk : clK i = 0 ∨ clK i = d.kind) (h : clR d i ≠ 0) : clBad d i = true := by
  unfold clBad clSkip
  rcases hk with hk | hk <;> simp [hk, h]
theorem good_of {d : Dr} {i : Nat} (h : clR d i = 0) : clBad d i = false := by
  unfold clBad; simp [h]
theorem skip_of {d : Dr} {i : Nat} (h0 : clK i ≠ 0) (h : clK i ≠ d.kind) : clBad d i = false := by
  unfold clBad clSkip; simp [h0, h]
theorem within_B (n lo hi : Int) : within n lo hi = if withinB n lo hi = true then 0 else 15 := by
  unfold within withinB
  split <;> split <;> simp_all <;> omega

theorem ckKind_bad {d : Dr} (h : (!withinB d.kind 1 3 || forB d) = true) : ckKind d = 14 := by
  unfold ckKind
  rw [if_neg, if_neg, if_neg]
  all_goals
    intro hh
    unfold withinB forB at h
    simp [lotE, balE, panE] at hh h
    simp_all
theorem ckKind_good {d : Dr} (h : (!withinB d.kind 1 3 || forB d) = false) : ckKind d = 0 ∧ (d.kind = 1 ∨ d.kind = 2 ∨ d.kind = 3) := by
  have hk : d.kind = 1 ∨ d.kind = 2 ∨ d.kind = 3 := by
    unfold withinB at h
    simp at h
    omega
  refine ⟨?_, hk⟩
  have hf : forB d = false := by simp at h; exact h.2
  unfold forB at hf
  unfold ckKind lotE balE panE
  rcases hk with hk | hk | hk <;> simp [hk] at hf ⊢ <;> grind

theorem c14 (d : Dr) (a : DrA) (w : World) (hd : DrAt w d a) (hz : DrSz d) : Ret Try.prog 14 [drV d a] w (fun v w' => v = .tuple #[.string (chk d).1, .int .i64 (chk d).2] ∧ Keeps [] w w') := by
  refine Ret.of_WP Try.func14 rfl Try.ntmps14 rfl ?_
  have hp := Hp.start (M := []) (w := w)
  have hb : ∀ j, j < 0 → clBad d j = false := by omega
  ((repeat (with_reducible first | apply WP_seq | apply WP_region)); apply wls; exact sbox13 hp rfl; rintro _ w1 ⟨db, rfl, hp⟩)
  (repeat (first | (with_reducible first | apply WP_seq | apply WP_region | apply wpl_nil | apply thenQ_n) | (apply wlp; ((first | apply pv_assign | apply pf_field | (apply pf_load; exact rfl)) <;> (first | exact rfl | exact hp.cell 0 rfl rfl)); (first | exact fI rfl | exact fP rfl | exact fT rfl))))
  (apply wls; exact st_call rfl ent30 rfl (c30 _ _ hz.name))
  rintro _ w2 ⟨rfl, hk⟩
  have hp := hp.call hk
  (repeat (first | (with_reducible first | apply wpl_nil | apply thenQ_n) | (apply wlp; (apply pv_not <;> exact rfl); exact fB rfl)))
  refine WP_cond rfl (fun h => ?_) (fun h => ?_)
  · (repeat (first | (with_reducible first | apply WP_seq | apply WP_region | apply wpl_nil | apply thenQ_n | apply thenQ_ret | apply WP_ret) | (apply wlp; apply pv_assign; (first | exact fI rfl | exact fT rfl))))
    refine ret_tmp2 rfl (fT rfl) (fI rfl) ⟨_, rfl, ?_, hp.keeps⟩
    have e : ckName d = 13 := if_neg (by simpa using h)
    rw [chk_at (i := 0) (by omega) hb (bad_of (.inl rfl) (by show ckName d ≠ 0; omega))]
    rw [show clR d 0 = 13 from e]
    rfl
  have hb := below_succ' hb (good_of (i := 0) (show ckName d = 0 from if_pos (by simpa using h)))
  (repeat (first | (with_reducible first | apply WP_seq | apply WP_region | apply thenQ_n | apply WP_skip) | (apply wlp; ((first | apply pf_field | (apply pf_load; exact rfl)) <;> (first | exact rfl | exact hp.cell 0 rfl rfl)); (first | exact fI rfl | exact fP rfl))))
  (apply wls; exact st_call rfl ent31 rfl (c31 _ _ _ _))
  rintro _ w3 ⟨rfl, hk⟩
  have hp := hp.call hk
  (repeat ((first | apply wlp | (apply wlg; exact rfl; exact rfl)); (intros; ((first | apply pv_move | (apply pf_loadb; exact rfl) | apply pv_not) <;> (first | exact rfl | exact hp.agg_blk 0 rfl rfl))); (intros; (first | exact fB rfl | exact fA13 rfl))))
  (apply wlgsH hp; exact rfl; exact rfl; (intro hb; apply st_callG1 hp rfl ent32 (hc := c32 d a _) <;> (first | exact rfl | exact ev_sel rfl (by assumption))); intro w hp)
  (repeat (first | (with_reducible first | apply wpl_nil | apply thenQ_n) | (apply wlp; exact pv_or rfl rfl rfl; exact fB rfl)))
  refine WP_cond rfl (fun h => ?_) (fun h => ?_)
  · (repeat (first | (with_reducible first | apply WP_seq | apply WP_region | apply wpl_nil | apply thenQ_n | apply thenQ_ret | apply WP_ret) | (apply wlp; apply pv_assign; (first | exact fI rfl | exact fT rfl))))
    refine ret_tmp2 rfl (fT rfl) (fI rfl) ⟨_, rfl, ?_, hp.keeps⟩
    have e : ckKind d = 14 := ckKind_bad h
    rw [chk_at (i := 1) (by omega) hb (bad_of (.inl rfl) (by show ckKind d ≠ 0; omega))]
    rw [show clR d 1 = 14 from e]
    rfl
  obtain ⟨hk0, hkk⟩ := ckKind_good h
  have hb := below_succ' hb (good_of (i := 1) hk0)
  (repeat (first | (with_reducible first | apply WP_seq | apply WP_region | apply thenQ_n | apply WP_skip) | (apply wlp; ((first | apply pf_field | (apply pf_load; exact rfl)) <;> (first | exact rfl | exact hp.cell 0 rfl rfl)); (first | exact fI rfl | exact fP rfl))))
  (apply wls; exact st_call rfl ent31 rfl (c31 _ _ _ _))
  rintro _ w2 ⟨rfl, hk⟩
  have hp := hp.call hk
  (repeat (first | (with_reducible first | apply wpl_nil | apply thenQ_n) | (apply wlp; (apply pv_not <;> exact rfl); exact fB rfl)))
  refine WP_cond rfl (fun h => ?_) (fun h => ?_)
  · (repeat (first | (with_reducible first | apply WP_seq | apply WP_region | apply wpl_nil | apply thenQ_n | apply thenQ_ret | apply WP_ret) | (apply wlp; apply pv_assign; (first | exact fI rfl | exact fT rfl))))
    refine ret_tmp2 rfl (fT rfl) (fI rfl) ⟨_, rfl, ?_, hp.keeps⟩
    have e : clR d 2 = 15 := (within_B _ _ _).trans (if_neg (by simpa using h))
    rw [chk_at (i := 2) (by omega) hb (bad_of (.inl rfl) (by omega)), e]
    rfl
  have hb := below_succ' hb (good_of (i := 2) ((within_B _ _ _).trans (if_pos (by simpa using h))))
  (repeat (first | (with_reducible first | apply WP_seq | apply WP_region | apply thenQ_n | apply WP_skip) | (apply wlp; ((first | apply pf_field | (apply pf_load; exact rfl)) <;> (first | exact rfl | exact hp.cell 0 rfl rfl)); (first | exact fI rfl | exact fP rfl))))
  (apply wls; exact st_call rfl ent31 rfl (c31 _ _ _ _))
  rintro _ w2 ⟨rfl, hk⟩
  have hp := hp.call hk
  (repeat (first | (with_reducible first | apply wpl_nil | apply thenQ_n) | (apply wlp; (apply pv_not <;> exact rfl); exact fB rfl)))
  refine WP_cond rfl (fun h => ?_) (fun h => ?_)
  · (repeat (first | (with_reducible first | apply WP_seq | apply WP_region | apply wpl_nil | apply thenQ_n | apply thenQ_ret | apply WP_ret) | (apply wlp; apply pv_assign; (first | exact fI rfl | exact fT rfl))))
    refine ret_tmp2 rfl (fT rfl) (fI rfl) ⟨_, rfl, ?_, hp.keeps⟩
    have e : clR d 3 = 15 := (within_B _ _ _).trans (if_neg (by simpa using h))
    rw [chk_at (i := 3) (by omega) hb (bad_of (.inl rfl) (by omega)), e]
    rfl
  have hb := below_succ' hb (good_of (i := 3) ((within_B _ _ _).trans (if_pos (by simpa using h))))
  (repeat (first | (with_reducible first | apply WP_seq | apply WP_region | apply wpl_nil | apply thenQ_n | apply WP_skip) | (apply wlp; ((first | apply pf_field | (apply pf_load; exact rfl) | (apply pf_len; exact rfl) | apply pv_gtr) <;> (first | exact rfl | exact hp.cell 0 rfl rfl)); (first | exact fI rfl | exact fB rfl | exact fP rfl | exact fS rfl))))
  refine WP_cond_d rfl (fun h => ?_) (fun h => ?_)
  · (repeat (first | (with_reducible first | apply WP_seq | apply WP_region | apply wpl_nil | apply thenQ_n | apply thenQ_ret | apply WP_ret) | (apply wlp; apply pv_assign; (first | exact fI rfl | exact fT rfl))))
    refine ret_tmp2 rfl (fT rfl) (fI rfl) ⟨_, rfl, ?_, hp.keeps⟩
    have e : clR d 4 = 2 := if_pos h
    rw [chk_at (i := 4) (by omega) hb (bad_of (.inl rfl) (by omega)), e]
    rfl
  (repeat (first | (with_reducible first | apply WP_seq | apply WP_region | apply thenQ_n | apply WP_skip) | (apply wlp; ((first | apply pf_field | (apply pf_load; exact rfl)) <;> (first | exact rfl | exact hp.cell 0 rfl rfl)); (first | exact fP rfl | exact fS rfl))))
  (apply wls; exact st_call rfl ent33 rfl (c33 _ _ _ _ (by omega) (hd.barred.keep0 hp.keeps)))
  rintro _ w2 ⟨rfl, hk⟩
  have hp := hp.call hk
  (repeat (with_reducible first | apply wpl_nil | apply thenQ_n))
  refine WP_cond rfl (fun h2 => ?_) (fun h2 => ?_)
  · (repeat (first | (with_reducible first | apply WP_seq | apply WP_region | apply wpl_nil | apply thenQ_n | apply thenQ_ret | apply WP_ret) | (apply wlp; apply pv_assign; (first | exact fI rfl | exact fT rfl))))
    refine ret_tmp2 rfl (fT rfl) (fI rfl) ⟨_, rfl, ?_, hp.keeps⟩
    have e : clR d 4 = 33 := (if_neg h).trans (if_neg (by simpa using h2))
    rw [chk_at (i := 4) (by omega) hb (bad_of (.inl rfl) (by omega)), e]
    rfl
  have hb := below_succ' hb (good_of (i := 4) ((if_neg h).trans (if_pos (by simpa using h2))))
  clear h h2
  (repeat (first | (with_reducible first | apply WP_seq | apply WP_block | apply WP_region | apply wpl_nil | apply thenQ_n | apply WP_skip) | (apply wlp; ((first | apply pv_assign | apply pf_field | (apply pf_load; exact rfl) | (apply pv_eql; (first | exact rfl | exact ev_sel rfl (by assumption)))) <;> (first | exact rfl | exact hp.cell 0 rfl rfl)); (first | exact fI rfl | exact fB rfl | exact fP rfl))))
  refine WP_cond_d rfl (fun h1 => ?_) (fun h1 => ?_)
  · have h1 : d.kind = 1 := h1
    (repeat (first | (with_reducible first | apply WP_seq | apply WP_region) | (apply wlp; ((first | apply pf_field | (apply pf_load; exact rfl)) <;> (first | exact rfl | exact hp.cell 0 rfl rfl)); (first | exact fI rfl | exact fP rfl))))
    (apply wls; exact st_call rfl ent31 rfl (c31 _ _ _ _))
    rintro _ w2 ⟨rfl, hk⟩
    have hp := hp.call hk
    (repeat (first | (with_reducible first | apply wpl_nil | apply thenQ_n) | (apply wlp; (apply pv_not <;> exact rfl); exact fB rfl)))
    refine WP_cond rfl (fun h => ?_) (fun h => ?_)
    · (repeat (first | (with_reducible first | apply WP_seq | apply WP_region | apply wpl_nil | apply thenQ_n | apply thenQ_ret | apply inBlk_ret | apply WP_ret) | (apply wlp; apply pv_assign; (first | exact fI rfl | exact fT rfl))))
      refine ret_tmp2 rfl (fT rfl) (fI rfl) ⟨_, rfl, ?_, hp.keeps⟩
      have e : clR d 5 = 15 := (within_B _ _ _).trans (if_neg (by simpa using h))
      rw [chk_at (i := 5) (by omega) hb (bad_of (.inr h1.symm) (by omega)), e]
      rfl
    have hb := below_succ' hb (good_of (i := 5) ((within_B _ _ _).trans (if_pos (by simpa using h))))
    (repeat (first | (with_reducible first | apply WP_seq | apply WP_region | apply thenQ_n | apply WP_skip) | (apply wlp; ((first | apply pf_field | (apply pf_load; exact rfl) | apply pv_min) <;> (first | exact rfl | exact hp.cell 0 rfl rfl)); (first | exact fI rfl | exact fP rfl))))
    (apply wls; exact st_call rfl ent31 rfl (c31 _ _ _ _))
    rintro _ w2 ⟨rfl, hk⟩
    have hp := hp.call hk
    (repeat (first | (with_reducible first | apply wpl_nil | apply thenQ_n) | (apply wlp; (apply pv_not <;> exact rfl); exact fB rfl)))
    refine WP_cond rfl (fun h => ?_) (fun h => ?_)
    · (repeat (first | (with_reducible first | apply WP_seq | apply WP_region | apply wpl_nil | apply thenQ_n | apply thenQ_ret | apply inBlk_ret | apply WP_ret) | (apply wlp; apply pv_assign; (first | exact fI rfl | exact fT rfl))))
      refine ret_tmp2 rfl (fT rfl) (fI rfl) ⟨_, rfl, ?_, hp.keeps⟩
      have e : clR d 6 = 15 := (within_B _ _ _).trans (if_neg (by simpa using h))
      rw [chk_at (i := 6) (by omega) hb (bad_of (.inr h1.symm) (by omega)), e]
      rfl
    have hb := below_succ' hb (good_of (i := 6) ((within_B _ _ _).trans (if_pos (by simpa using h))))
    (repeat (first | (with_reducible first | apply WP_seq | apply WP_region | apply thenQ_n | apply WP_skip) | (apply wlp; ((apply pf_loadb; exact rfl) <;> (first | exact rfl | exact hp.agg_blk 0 rfl rfl)); exact fA13 rfl)))
    (apply wls; exact st_call rfl ent34 rfl (c34 d a _ (hd.keep hp.keeps)))
    rintro _ w2 ⟨rfl, hk⟩
    have hp := hp.call hk
    (repeat (first | (with_reducible first | apply WP_seq | apply WP_region | apply wpl_nil | apply thenQ_n) | (apply wlp; ((first | apply pv_move | apply pv_assign | (apply pv_neq; (first | exact rfl | exact ev_sel rfl (by assumption)))) <;> exact rfl); (first | exact fI rfl | exact fB rfl))))
    refine WP_cond_nd rfl (fun h => ?_) (fun h => ?_)
    · (repeat (first | (with_reducible first | apply WP_seq | apply WP_region | apply wpl_nil | apply thenQ_n | apply thenQ_ret | apply inBlk_ret | apply WP_ret) | (apply wlp; (first | apply pv_move | apply pv_assign); (first | exact fI rfl | exact fT rfl))))
      refine ret_tmp2 rfl (fT rfl) (fI rfl) ⟨_, rfl, ?_, hp.keeps⟩
      rw [chk_at (i := 7) (by omega) hb (bad_of (.inr h1.symm) h)]
      rfl
    have hb := below_succ' hb (good_of (i := 7) h)
    have hb : ∀ j, j < 12 → clBad d j = false := by
      intro j hj
      by_cases e : j < 8
      · exact hb j e
      · have : j = 8 ∨ j = 9 ∨ j = 10 ∨ j = 11 := by omega
        rcases this with rfl | rfl | rfl | rfl <;> exact skip_of (by decide) (by rw [h1]; decide)
    (repeat (first | (with_reducible first | apply WP_seq | apply WP_region | apply wpl_nil | apply thenQ_n | apply inBlk_n | apply WP_ret | apply WP_skip) | (apply wlp; apply pv_assign; (first | exact fI rfl | exact fT rfl))))
    refine ret_tmp2 rfl (fT rfl) (fI rfl) ⟨_, rfl, ?_, hp.keeps⟩
    rw [chk_ok hb]
  have hb : ∀ j, j < 8 → clBad d j = false := by
    intro j hj
    by_cases e : j < 5
    · exact hb j e
    · have : j = 5 ∨ j = 6 ∨ j = 7 := by omega
      rcases this with rfl | rfl | rfl <;> exact skip_of (by decide) (fun h => h1 h.symm)
  (repeat (first | (with_reducible first | apply WP_seq | apply WP_region | apply wpl_nil | apply thenQ_n) | (apply wlp; ((first | apply pv_assign | (apply pv_eql; (first | exact rfl | exact ev_sel rfl (by assumption)))) <;> exact rfl); exact fB rfl)))
  refine WP_cond_d rfl (fun h2 => ?_) (fun h2 => ?_)
  · have h2 : d.kind = 2 := h2
    (repeat (first | (with_reducible first | apply WP_seq | apply WP_region) | (apply wlp; ((apply pf_loadb; exact rfl) <;> (first | exact rfl | exact hp.agg_blk 0 rfl rfl)); exact fA13 rfl)))
    (apply wls; exact st_call rfl ent35 rfl (c35 d a _ (hd.keep hp.keeps) hz.places))
    rintro _ w2 ⟨rfl, hk⟩
    have hp := hp.call hk
    (repeat (first | (with_reducible first | apply WP_seq | apply WP_region | apply wpl_nil | apply thenQ_n) | (apply wlp; ((first | apply pv_move | apply pv_assign | (apply pv_neq; (first | exact rfl | exact ev_sel rfl (by assumption)))) <;> exact rfl); (first | exact fI rfl | exact fB rfl))))
    refine WP_cond_nd rfl (fun h => ?_) (fun h => ?_)
    · (repeat (first | (with_reducible first | apply WP_seq | apply WP_region | apply wpl_nil | apply thenQ_n | apply thenQ_ret | apply inBlk_ret | apply WP_ret) | (apply wlp; (first | apply pv_move | apply pv_assign); (first | exact fI rfl | exact fT rfl))))
      refine ret_tmp2 rfl (fT rfl) (fI rfl) ⟨_, rfl, ?_, hp.keeps⟩
      rw [chk_at (i := 8) (by omega) hb (bad_of (.inr h2.symm) h)]
      rfl
    have hb := below_succ' hb (good_of (i := 8) h)
    (repeat (first | (with_reducible first | apply WP_seq | apply WP_region | apply thenQ_n | apply WP_skip) | (apply wlp; ((first | apply pf_field | (apply pf_load; exact rfl)) <;> (first | exact rfl | exact hp.cell 0 rfl rfl)); (first | exact fI rfl | exact fP rfl))))
    (apply wls; exact st_call rfl ent31 rfl (c31 _ _ _ _))
    rintro _ w2 ⟨rfl, hk⟩
    have hp := hp.call hk
    (repeat (first | (with_reducible first | apply wpl_nil | apply thenQ_n) | (apply wlp; (apply pv_not <;> exact rfl); exact fB rfl)))
    refine WP_cond rfl (fun h => ?_) (fun h => ?_)
    · (repeat (first | (with_reducible first | apply WP_seq | apply WP_region | apply wpl_nil | apply thenQ_n | apply thenQ_ret | apply inBlk_ret | apply WP_ret) | (apply wlp; apply pv_assign; (first | exact fI rfl | exact fT rfl))))
      refine ret_tmp2 rfl (fT rfl) (fI rfl) ⟨_, rfl, ?_, hp.keeps⟩
      have e : clR d 9 = 15 := (within_B _ _ _).trans (if_neg (by simpa using h))
      rw [chk_at (i := 9) (by omega) hb (bad_of (.inr h2.symm) (by omega)), e]
      rfl
    have hb := below_succ' hb (good_of (i := 9) ((within_B _ _ _).trans (if_pos (by simpa using h))))
    have hb : ∀ j, j < 12 → clBad d j = false := by
      intro j hj
      by_cases e : j < 10
      · exact hb j e
      · have : j = 10 ∨ j = 11 := by omega
        rcases this with rfl | rfl <;> exact skip_of (by decide) (by rw [h2]; decide)
    (repeat (first | (with_reducible first | apply WP_seq | apply WP_region | apply wpl_nil | apply thenQ_n | apply inBlk_n | apply WP_ret | apply WP_skip) | (apply wlp; apply pv_assign; (first | exact fI rfl | exact fT rfl))))
    refine ret_tmp2 rfl (fT rfl) (fI rfl) ⟨_, rfl, ?_, hp.keeps⟩
    rw [chk_ok hb]
  have h3 : d.kind = 3 := by
    rcases hkk with e | e | e
    · exact absurd e h1
    · exact absurd e h2
    · exact e
  have hb : ∀ j, j < 10 → clBad d j = false := by
    intro j hj
    by_cases e : j < 8
    · exact hb j e
    · have : j = 8 ∨ j = 9 := by omega
      rcases this with rfl | rfl <;> exact skip_of (by decide) (by rw [h3]; decide)
  (repeat (first | (with_reducible first | apply WP_seq | apply WP_region | apply wpl_nil | apply thenQ_n) | (apply wlp; ((first | apply pv_assign | (apply pv_eql; (first | exact rfl | exact ev_sel rfl (by assumption)))) <;> exact rfl); exact fB rfl)))
  refine WP_cond_d rfl (fun _ => ?_) (fun h => absurd h3 h)
  (repeat (first | (with_reducible first | apply WP_seq | apply WP_region) | (apply wlp; ((first | apply pf_field | (apply pf_load; exact rfl)) <;> (first | exact rfl | exact hp.cell 0 rfl rfl)); (first | exact fI rfl | exact fP rfl))))
  (apply wls; exact st_call rfl ent31 rfl (c31 _ _ _ _))
  rintro _ w2 ⟨rfl, hk⟩
  have hp := hp.call hk
  (repeat (first | (with_reducible first | apply wpl_nil | apply thenQ_n) | (apply wlp; (apply pv_not <;> exact rfl); exact fB rfl)))
  refine WP_cond rfl (fun h => ?_) (fun h => ?_)
  · (repeat (first | (with_reducible first | apply WP_seq | apply WP_region | apply wpl_nil | apply thenQ_n | apply thenQ_ret | apply inBlk_ret | apply WP_ret) | (apply wlp; apply pv_assign; (first | exact fI rfl | exact fT rfl))))
    refine ret_tmp2 rfl (fT rfl) (fI rfl) ⟨_, rfl, ?_, hp.keeps⟩
    have e : clR d 10 = 15 := (within_B _ _ _).trans (if_neg (by simpa using h))
    rw [chk_at (i := 10) (by omega) hb (bad_of (.inr h3.symm) (by omega)), e]
    rfl
  have hb := below_succ' hb (good_of (i := 10) ((within_B _ _ _).trans (if_pos (by simpa using h))))
  (repeat (first | (with_reducible first | apply WP_seq | apply WP_region | apply thenQ_n | apply WP_skip) | (apply wlp; ((apply pf_loadb; exact rfl) <;> (first | exact rfl | exact hp.agg_blk 0 rfl rfl)); exact fA13 rfl)))
  (apply wls; exact st_call rfl ent36 rfl (c36 d a _ (hd.keep hp.keeps) hz.quotas))
  rintro _ w2 ⟨rfl, hk⟩
  have hp := hp.call hk
  (repeat (first | (with_reducible first | apply WP_seq | apply WP_region | apply wpl_nil | apply thenQ_n) | (apply wlp; ((first | apply pv_move | apply pv_assign | (apply pv_neq; (first | exact rfl | exact ev_sel rfl (by assumption)))) <;> exact rfl); (first | exact fI rfl | exact fB rfl))))
  refine WP_cond_nd rfl (fun h => ?_) (fun h => ?_)
  · (repeat (first | (with_reducible first | apply WP_seq | apply WP_region | apply wpl_nil | apply thenQ_n | apply thenQ_ret | apply inBlk_ret | apply WP_ret) | (apply wlp; (first | apply pv_move | apply pv_assign); (first | exact fI rfl | exact fT rfl))))
    refine ret_tmp2 rfl (fT rfl) (fI rfl) ⟨_, rfl, ?_, hp.keeps⟩
    rw [chk_at (i := 11) (by omega) hb (bad_of (.inr h3.symm) h)]
    rfl
  have hb := below_succ' hb (good_of (i := 11) h)
  (repeat (first | (with_reducible first | apply WP_seq | apply WP_region | apply wpl_nil | apply thenQ_n | apply inBlk_n | apply WP_ret | apply WP_skip) | (apply wlp; apply pv_assign; (first | exact fI rfl | exact fT rfl))))
  refine ret_tmp2 rfl (fT rfl) (fI rfl) ⟨_, rfl, ?_, hp.keeps⟩
  rw [chk_ok hb]

def isB (d : Dr) (s : ByteArray) (e : Int) : Bool := decide ((chk d).1 = s) && decide ((chk d).2 = e)
theorem c15 (d : Dr) (a : DrA) (s : ByteArray) (e : Int) (w : World) (hd : DrAt w d a) : Ret Try.prog 15 [drV d a, .string s, .int .i64 e] w (fun v w' => v = .bool (isB d s e) ∧ Keeps [] w w') := by
  refine Ret.of_WP Try.func15 rfl Try.ntmps15 rfl ?_
  have hp := Hp.start (M := []) (w := w)
  (repeat (first | (with_reducible first | apply WP_seq | apply WP_region | apply wpl_nil | apply thenQ_n) | (apply wlp; ((first | apply pv_assign | (apply pf_loadb; exact rfl)) <;> (first | exact rfl | exact hp.agg_blk 0 rfl rfl)); (first | exact fB rfl | exact fA13 rfl)) | (apply wls; exact sbox13 hp rfl; rintro _ w ⟨b, rfl, hp⟩)))
  (apply wls; exact st_call rfl ent13 rfl (c13 d a _ (hd.keep hp.keeps)))
  rintro _ w2 ⟨rfl, hk⟩
  have hp := hp.call hk
  (repeat (first | (with_reducible first | apply WP_seq | apply WP_region | apply wpl_nil | apply thenQ_n | apply WP_ret) | ((first | apply wlp | (apply wlg; exact rfl; exact rfl)); (intros; ((first | apply pv_move | apply pv_assign | exact pv_and rfl rfl rfl | (apply pv_eql; (first | exact rfl | exact ev_sel rfl (by assumption))) | apply pv_extract | (apply pv_seql; (first | exact rfl | exact ev_sel rfl (by assumption)))) <;> (first | exact rfl | exact ev_sel rfl (by assumption)))); (intros; (first | exact fI rfl | exact fB rfl | exact fT rfl | exact fU rfl)))))
  exact ret_tmp rfl rfl ⟨_, rfl, rfl, hp.keeps⟩

def worthR (d : Dr) (n : Int) : Int × Int :=
  if (!decide ((chk d).2 = 0) || decide (n < 0)) = true then (0, 1) else if (decide (0 < d.price) && decide ((1000000000 : Int).tdiv d.price < n)) = true then (0, 3) else (IntKind.i64.wrap (d.price * n), 0)
end Go.Proofs.Ytgephdcapajaiaa
