/- Layer 14: the reference's Entrant answers as types.Entrant; conditions: rules and entrant lie in memory, sizes of strings are ints. -/
import Derived.Test.YtgephdcapajaiaaJ
namespace Go.Proofs.Ytgephdcapajaiaa
open Go.Eng
attribute [local irreducible] PV StepF wpl wpd WP Ret

structure EnSz (e : En) : Prop where
  groups : ∀ p ∈ e.groups, p.size ≤ 9223372036854775807

def anyUpto (l : List (ByteArray × Int)) (x : ByteArray) (k : Nat) : Bool := (l.take k).any (fun p => decide (p.1 = x))
theorem anyUpto_succ {l : List (ByteArray × Int)} {x : ByteArray} {k : Nat} (h : k < l.length) : (anyUpto l x k || decide (l[k].1 = x)) = anyUpto l x (k + 1) := by
  unfold anyUpto
  rw [List.take_add_one, List.getElem?_eq_getElem h, List.any_append]
  simp
theorem anyUpto_all {l : List (ByteArray × Int)} {x : ByteArray} : anyUpto l x l.length = memD x (l.map (·.1)) := by
  unfold anyUpto memD
  rw [List.take_length, Bool.eq_iff_iff]
  simp
theorem badCF_eq (d : Dr) (e : En) : badCF d e = (!withinB e.cls 0 d.cls || !withinB e.fam 0 1000000000) := by
  unfold badCF withinB
  rw [Bool.eq_iff_iff]
  simp
  omega

theorem c43 (d : Dr) (a : DrA) (e : En) (b : EnA) (w0 : World) (hd : DrAt w0 d a) (he : EnAt w0 e b) (hn : d.places.length ≤ 1000000000) : Ret Try.prog 43 [drV d a, enV e b] w0 (fun v w' => v = .int .i64 (ckWishes d e) ∧ Keeps [] w0 w') := by
  refine Ret.of_WP Try.func43 rfl Try.ntmps43 rfl ?_
  have hp := Hp.start (M := []) (w := w0)
  ((repeat (with_reducible first | apply WP_seq | apply WP_region)); apply wls; exact sbox13 hp rfl; rintro _ w1 ⟨db, rfl, hp⟩)
  ((repeat fail); apply wls; exact sbox6 hp rfl; rintro _ w2 ⟨eb, rfl, hp⟩)
  (repeat (first | (with_reducible first | apply WP_seq | apply WP_region | apply wpl_nil | apply thenQ_n) | (apply wlp; ((first | apply pv_assign | apply pf_field | (apply pf_load; exact rfl)) <;> (first | exact rfl | exact hp.cell 0 rfl rfl | exact hp.cell 1 rfl rfl)); (first | exact fI rfl | exact fP rfl))))
  (apply wls; exact st_call rfl ent31 rfl (c31 _ _ _ _))
  rintro _ w3 ⟨rfl, hk⟩
  have hp := hp.call hk
  (repeat ((first | apply wlp | (apply wlg; exact rfl; exact rfl)); (intros; ((first | apply pv_move | apply pf_field | (apply pf_load; exact rfl) | apply pv_not) <;> (first | exact rfl | exact ev_sel rfl (by assumption) | exact hp.cell 0 rfl rfl))); (intros; (first | exact fI rfl | exact fB rfl | exact fP rfl))))
  (apply wlgsH hp; exact rfl; exact rfl; (intro hb; apply st_callG3 hp rfl ent31 (hc := c31 _ _ _ _) <;> (first | exact rfl | exact ev_sel rfl (by assumption))); intro w hp)
  (repeat (first | (with_reducible first | apply wpl_nil | apply thenQ_n) | ((first | apply wlp | (apply wlg; exact rfl; exact rfl)); (intros; ((first | exact pv_or rfl rfl rfl | apply pv_not) <;> exact ev_sel rfl (by assumption))); (intros; exact fB rfl))))
  refine WP_cond rfl (fun h => ?_) (fun h => ?_)
  · (repeat (first | (with_reducible first | apply WP_seq | apply WP_region | apply wpl_nil | apply thenQ_n | apply thenQ_ret | apply WP_ret) | (apply wlp; exact pv_assign; exact rfl)))
    exact ret_tmp rfl rfl ⟨_, rfl, int_eq (Eq.symm (if_pos ((badCF_eq d e).trans h))), hp.keeps⟩
  have h1 : ¬ badCF d e = true := neT ((badCF_eq d e).trans h)
  (repeat (first | (with_reducible first | apply WP_seq | apply WP_region | apply wpl_nil | apply thenQ_n | apply WP_skip) | (apply wlp; ((first | apply pf_field | (apply pf_load; exact rfl) | (apply pf_len; exact rfl) | apply pv_gtr) <;> (first | exact rfl | exact hp.cell 0 rfl rfl | exact hp.cell 1 rfl rfl)); (first | exact fI rfl | exact fB rfl | exact fP rfl | exact fS rfl))))
  refine WP_cond_d rfl (fun h => ?_) (fun h2 => ?_)
  · (repeat (first | (with_reducible first | apply WP_seq | apply WP_region | apply wpl_nil | apply thenQ_n | apply thenQ_ret | apply WP_ret) | (apply wlp; exact pv_assign; exact rfl)))
    exact ret_tmp rfl rfl ⟨_, rfl, int_eq (Eq.symm ((if_neg h1).trans (if_pos h))), hp.keeps⟩
  have hl : e.wishes.length ≤ 1000000000 := by omega
  (repeat (first | (with_reducible first | apply WP_seq | apply WP_block | apply WP_region | apply wpl_nil | apply thenQ_n | apply WP_skip) | (apply wlp; apply pv_assign; exact fI rfl)))
  refine WP_loopS [4, 5, 6, 7, 27, 28, 29, 30, 31, 32, 33, 34, 35, 36, 37, 38, 39, 40, 41, 42, 43, 44, 45, 46, 47, 48, 49, 50, 51, 52, 53, 54, 55, 56, 57] (fun (i : Nat) F => F.put 5 (.int .i64 i))
    (fun i w' => i ≤ e.wishes.length ∧ (e.wishes.take i).all (fun x => memD x (d.places.map (·.1))) = true ∧ Hp w0 [] w' [blk eb 6 (frOf [.int .i64 e.id, .int .i64 e.cls, .int .i64 e.fam, .slice b.sP e.picks.length b.cP, .slice b.sW e.wishes.length b.cW, .slice b.sG e.groups.length b.cG]) 46, blk db 13 (frOf [.string d.name, .int .i64 d.kind, .int .i64 d.round, .int .i64 d.price, .int .i64 d.pool, .int .i64 d.pick, .slice a.sT d.tiers.length a.cT, .bool d.roll, .slice a.sP d.places.length a.cP, .int .i64 d.cls, .int .i64 d.size, .slice a.sQ d.quotas.length a.cQ, .slice a.sB d.barred.length a.cB]) 30])
    (fun i => e.wishes.length - i) 0 (put_self (Same.eq .refl) rfl) ⟨Nat.zero_le _, by simp, hp⟩ ?_
  clear hp
  rintro u i w4 ⟨hi, hall, hp⟩
  (repeat (first | (with_reducible first | apply WP_seq | apply WP_region | apply wpl_nil | apply thenQ_n) | (apply wlp; ((first | apply pv_move | apply pf_field | (apply pf_load; exact rfl) | (apply pf_len; exact rfl) | apply pv_lss) <;> (first | exact rfl | exact hp.cell 0 rfl rfl)); (first | exact fI rfl | exact fB rfl | exact fP rfl | exact fS rfl))))
  refine WP_cond_d rfl (fun h => ?_) (fun h => ?_)
  · have hlt : i < e.wishes.length := by omega
    obtain ⟨b0, o0, hs0, hc0⟩ := he.wishes.base (by omega)
    have hc1 := hc0 i _ (List.getElem?_eq_getElem hlt) 0 _ rfl
    (repeat (first | (with_reducible first | apply WP_seq | apply WP_block | apply WP_region | apply wpl_nil | apply thenQ_n | apply WP_skip) | (apply wlp; apply pv_assign; (first | exact fI rfl | exact fB rfl))))
    refine WP_loopS [6, 7, 34, 35, 36, 37, 38, 39, 40, 41, 42, 43, 44, 45, 46, 47, 48, 49, 50, 51, 52, 53, 54, 55] (fun (k : Nat) F => (F.put 6 (.bool (anyUpto d.places e.wishes[i] k))).put 7 (.int .i64 k))
      (fun k w' => k ≤ d.places.length ∧ Hp w0 [] w' [blk eb 6 (frOf [.int .i64 e.id, .int .i64 e.cls, .int .i64 e.fam, .slice b.sP e.picks.length b.cP, .slice b.sW e.wishes.length b.cW, .slice b.sG e.groups.length b.cG]) 46, blk db 13 (frOf [.string d.name, .int .i64 d.kind, .int .i64 d.round, .int .i64 d.price, .int .i64 d.pool, .int .i64 d.pick, .slice a.sT d.tiers.length a.cT, .bool d.roll, .slice a.sP d.places.length a.cP, .int .i64 d.cls, .int .i64 d.size, .slice a.sQ d.quotas.length a.cQ, .slice a.sB d.barred.length a.cB]) 30])
      (fun k => d.places.length - k) 0 (put_self (put_self (Same.eq .refl) rfl) rfl) ⟨Nat.zero_le _, hp⟩ ?_
    clear hp
    rintro u2 k w5 ⟨hki, hp⟩
    (repeat (first | (with_reducible first | apply WP_seq | apply WP_region | apply wpl_nil | apply thenQ_n) | (apply wlp; ((first | apply pv_move | apply pf_field | (apply pf_load; exact rfl) | (apply pf_len; exact rfl) | apply pv_lss) <;> (first | exact rfl | exact hp.cell 1 rfl rfl)); (first | exact fI rfl | exact fB rfl | exact fP rfl | exact fS rfl))))
    refine WP_cond_d rfl (fun h5 => ?_) (fun h5 => ?_)
    · have hlk : k < d.places.length := by omega
      obtain ⟨b1, o1, hs1, hd0⟩ := hd.places.base (by omega)
      have hd1 := hd0 k _ (List.getElem?_eq_getElem hlk) 0 _ rfl
      (repeat (with_reducible first | apply WP_seq | apply WP_block | apply thenQ_n | apply WP_skip))
      refine WP_draw mixed (by kernel_rfl) (fun w' => Hp _ _ w' _) hp.drew ?_
      have hp := hp.drew
      (repeat ((first | (apply wdp; exact rfl) | (apply wdg; exact rfl; exact rfl; exact rfl)); (intro w hp; intros; ((first | apply pv_move | apply pv_assign | apply pf_field | (apply pf_load; exact rfl) | exact pv_or rfl rfl rfl | (apply pf_index; exact rfl) | (apply pv_seql; (first | exact rfl | exact ev_sel rfl (by assumption)))) <;> (first | exact rfl | exact ev_sel rfl (by assumption) | assumption | exact hp.cell 0 rfl rfl | exact hp.cell 1 rfl rfl | exact hp.old0 (by assumption)))); (intros; (first | exact fI rfl | exact fB rfl | exact fP rfl | exact fS rfl | exact fT rfl))))
      refine wpd_nil ?_
      (repeat (first | (with_reducible first | apply WP_region | apply thenQ_n | apply inBlk_n) | (apply wlp; apply pv_move; exact fI rfl)))
      (apply wlp; exact pv_add rfl rfl; exact int_eq (i64_in (by omega) (by omega)))
      (repeat (first | (with_reducible first | apply wpl_nil | apply thenQ_n) | (apply wlp; apply pv_assign; exact fI rfl)))
      exact ⟨k + 1, put_self (put_self (Same.eq (by repeat (first | exact Same.hav | exact Same.refl | refine Same.put rfl ?_ | refine Same.havs rfl ?_))) (bool_eq (anyUpto_succ hlk))) rfl, ⟨by omega, hp⟩, by omega⟩
    · have ek : k = d.places.length := by omega
      subst ek
      (repeat (first | (with_reducible first | apply WP_seq | apply WP_region | apply wpl_nil | apply thenQ_n | apply thenQ_exit | apply WP_exit) | ((with_reducible apply inBlk_same); exact rfl) | (apply wlp; ((first | apply pv_move | apply pv_not) <;> exact rfl); exact fB rfl)))
      refine WP_cond rfl (fun h6 => ?_) (fun h6 => ?_)
      · have h3 : memD e.wishes[i] (d.places.map (·.1)) = false := by rw [← anyUpto_all]; simpa using h6
        (repeat (first | (with_reducible first | apply WP_seq | apply WP_region | apply wpl_nil | apply thenQ_n | apply thenQ_ret | apply inBlk_ret | apply WP_ret) | (apply wlp; exact pv_assign; exact rfl)))
        exact ret_tmp rfl rfl ⟨_, rfl, int_eq (Eq.symm ((if_neg h1).trans ((if_neg h2).trans (if_pos (all_false_of (p := fun x => memD x (d.places.map (·.1))) hlt h3))))), hp.keeps⟩
      · have h3 : memD e.wishes[i] (d.places.map (·.1)) = true := by rw [← anyUpto_all]; simpa using h6
        (repeat (first | (with_reducible first | apply WP_region | apply thenQ_n | apply inBlk_n | apply WP_skip) | (apply wlp; apply pv_move; exact fI rfl)))
        (apply wlp; exact pv_add rfl rfl; exact int_eq (i64_in (by omega) (by omega)))
        (repeat (first | (with_reducible first | apply wpl_nil | apply thenQ_n) | (apply wlp; apply pv_assign; exact fI rfl)))
        exact ⟨i + 1, put_self (Same.eq (by repeat (first | exact Same.hav | exact Same.refl | refine Same.put rfl ?_ | refine Same.havs rfl ?_))) rfl, ⟨by omega, all_take_succ hlt hall h3, hp⟩, by omega⟩
  · have ei : i = e.wishes.length := by omega
    subst ei
    rw [List.take_length] at hall
    have h3' : ¬ e.wishes.all (fun x => memD x (d.places.map (·.1))) = false := by rw [hall]; simp
    (repeat (first | (with_reducible first | apply WP_seq | apply WP_region | apply thenQ_n | apply thenQ_exit | apply WP_exit) | ((with_reducible apply inBlk_same); exact rfl) | (apply wlp; ((first | apply pf_field | (apply pf_load; exact rfl)) <;> (first | exact rfl | exact hp.cell 0 rfl rfl)); (first | exact fP rfl | exact fS rfl))))
    (apply wls; exact st_call rfl ent44 rfl (c44 b.sW b.cW e.wishes _ (by omega) (he.wishes.keep0 hp.keeps)))
    rintro _ w8 ⟨rfl, hk⟩
    have hp := hp.call hk
    (repeat (with_reducible first | apply wpl_nil | apply thenQ_n))
    refine WP_cond rfl (fun h2' => ?_) (fun h2' => ?_)
    · (repeat (first | (with_reducible first | apply WP_seq | apply WP_region | apply wpl_nil | apply thenQ_n | apply thenQ_ret | apply WP_ret) | (apply wlp; exact pv_assign; exact rfl)))
      exact ret_tmp rfl rfl ⟨_, rfl, int_eq (Eq.symm ((if_neg h1).trans ((if_neg h2).trans ((if_neg h3').trans (if_pos (by simpa using h2')))))), hp.keeps⟩
    · (repeat (first | (with_reducible first | apply WP_seq | apply WP_region | apply wpl_nil | apply thenQ_n | apply WP_ret | apply WP_skip) | (apply wlp; exact pv_assign; exact rfl)))
      exact ret_tmp rfl rfl ⟨_, rfl, int_eq (Eq.symm ((if_neg h1).trans ((if_neg h2).trans ((if_neg h3').trans (if_neg (by simpa using h2')))))), hp.keeps⟩

theorem sub_in {i : Nat} {b : Bool} (h : (b && (decide (0 < (i : Int)) == true)) = true) (hi : i ≤ 1000000000) : IntKind.i64.wrap ((i : Int) - 1) = ((i - 1 : Nat) : Int) := by
  simp at h
  rw [i64_in (by omega) (by omega)]
  omega

def lastP (l : List Int) : Nat → Int
  | 0 => 0
  | i + 1 => l.getD i 0
def fE (d : Dr) (e : En) : Bool := (((!decide (d.kind = 1)) && fP' e) || ((!decide (d.kind = 2)) && fW e)) || ((!decide (d.kind = 3)) && fG e)
def badP (pool : Int) (l : List Int) (i : Nat) (x y : Int) : Bool := (!withinB x 1 pool) || (decide (0 < (i : Int)) && decide (x ≤ y))

theorem badP_eq {pool : Int} {l : List Int} {i : Nat} (hi : i < l.length) (h0 : 0 ≤ lastP l i) :
    badP pool l i l[i] (l[i - 1]'(by omega)) = (decide (l[i] ≤ lastP l i) || decide (pool < l[i])) := by
  unfold badP withinB
  cases i with
  | zero =>
    rw [show lastP l 0 = 0 from rfl, Bool.eq_iff_iff]
    simp only [Bool.or_eq_true, Bool.not_eq_true', Bool.and_eq_false_iff, Bool.and_eq_true, decide_eq_true_eq, decide_eq_false_iff_not]
    omega
  | succ i =>
    have e : lastP l (i + 1) = l[i] := by
      simp [lastP, List.getD_eq_getElem?_getD, List.getElem?_eq_getElem (show i < l.length by omega)]
    rw [e] at h0 ⊢
    rw [Bool.eq_iff_iff]
    simp
    omega
theorem lastP_succ {l : List Int} {i : Nat} (hi : i < l.length) : lastP l (i + 1) = l[i] := by
  simp [lastP, List.getD_eq_getElem?_getD, List.getElem?_eq_getElem hi]

theorem c19 (d : Dr) (a : DrA) (e : En) (b : EnA) (w0 : World) (hd : DrAt w0 d a) (he : EnAt w0 e b) (hz : DrSz d) (hez : EnSz e) : Ret Try.prog 19 [drV d a, enV e b] w0 (fun v w' => v = .int .i64 (entC d e) ∧ Keeps [] w0 w') := by
  refine Ret.of_WP Try.func19 rfl Try.ntmps19 rfl ?_
  have hp := Hp.start (M := []) (w := w0)
  ((repeat (with_reducible first | apply WP_seq | apply WP_region)); apply wls; exact sbox13 hp rfl; rintro _ w1 ⟨db, rfl, hp⟩)
  ((repeat fail); apply wls; exact sbox6 hp rfl; rintro _ w2 ⟨eb, rfl, hp⟩)
  (repeat (first | (with_reducible first | apply WP_seq | apply WP_region | apply wpl_nil | apply thenQ_n) | (apply wlp; ((first | apply pv_assign | (apply pf_loadb; exact rfl)) <;> (first | exact rfl | exact hp.agg_blk 1 rfl rfl)); (first | exact fI rfl | exact fA13 rfl))))
  (apply wls; exact st_call rfl ent14 rfl (c14 d a _ (hd.keep hp.keeps) hz))
  rintro _ w3 ⟨rfl, hk⟩
  have hp := hp.call hk
  (repeat (first | (with_reducible first | apply WP_seq | apply WP_region | apply wpl_nil | apply thenQ_n) | (apply wlp; ((first | apply pv_move | apply pv_assign | (apply pv_neq; (first | exact rfl | exact ev_sel rfl (by assumption))) | apply pv_extract) <;> exact rfl); (first | exact fI rfl | exact fB rfl | exact fT rfl | exact fU rfl))))
  refine WP_cond_nd rfl (fun h => ?_) (fun h1 => ?_)
  · (repeat (first | (with_reducible first | apply WP_seq | apply WP_region | apply wpl_nil | apply thenQ_n | apply thenQ_ret | apply WP_ret) | (apply wlp; exact pv_assign; exact rfl)))
    exact ret_tmp rfl rfl ⟨_, rfl, int_eq (Eq.symm (if_pos h)), hp.keeps⟩
  (repeat (first | (with_reducible first | apply WP_seq | apply WP_region | apply thenQ_n | apply WP_skip) | (apply wlp; ((first | apply pf_field | (apply pf_load; exact rfl)) <;> (first | exact rfl | exact hp.cell 0 rfl rfl)); (first | exact fI rfl | exact fP rfl))))
  (apply wls; exact st_call rfl ent31 rfl (c31 _ _ _ _))
  rintro _ w4 ⟨rfl, hk⟩
  have hp := hp.call hk
  (repeat (first | (with_reducible first | apply wpl_nil | apply thenQ_n) | (apply wlp; (apply pv_not <;> exact rfl); exact fB rfl)))
  refine WP_cond rfl (fun h => ?_) (fun h => ?_)
  · have h2 : ¬ within e.id 1 1000000000 = 0 := by rw [within_B]; simp at h; simp [h]
    (repeat (first | (with_reducible first | apply WP_seq | apply WP_region | apply wpl_nil | apply thenQ_n | apply thenQ_ret | apply WP_ret) | (apply wlp; exact pv_assign; exact rfl)))
    exact ret_tmp rfl rfl ⟨_, rfl, int_eq (Eq.symm ((if_neg (not_not_intro h1)).trans (if_pos h2))), hp.keeps⟩
  have h2 : within e.id 1 1000000000 = 0 := by rw [within_B]; simp at h; simp [h]
  have hbar := chk_bar h1
  (repeat (first | (with_reducible first | apply WP_seq | apply WP_region | apply thenQ_n | apply WP_skip) | (apply wlp; ((first | apply pf_field | (apply pf_load; exact rfl)) <;> (first | exact rfl | exact hp.cell 0 rfl rfl | exact hp.cell 1 rfl rfl)); (first | exact fI rfl | exact fP rfl | exact fS rfl))))
  (apply wls; exact st_call rfl ent42 rfl (c42 _ _ d.barred _ _ (by omega) (hd.barred.keep0 hp.keeps)))
  rintro _ w5 ⟨rfl, hk⟩
  have hp := hp.call hk
  (repeat (with_reducible first | apply wpl_nil | apply thenQ_n))
  refine WP_cond rfl (fun h => ?_) (fun h3 => ?_)
  · (repeat (first | (with_reducible first | apply WP_seq | apply WP_region | apply wpl_nil | apply thenQ_n | apply thenQ_ret | apply WP_ret) | (apply wlp; exact pv_assign; exact rfl)))
    exact ret_tmp rfl rfl ⟨_, rfl, int_eq (Eq.symm ((if_neg (not_not_intro h1)).trans ((if_neg (not_not_intro h2)).trans (if_pos h)))), hp.keeps⟩
  have h3 := neT h3
  have hh : ∀ {x y : Int}, (if d.kind = 1 then (if (fW e || fG e) = true then 14 else ckPicks d e)
  else if d.kind = 2 then (if (fP' e || fG e) = true then 14 else ckWishes d e)
  else if (fP' e || fW e) = true then 14 else ckGroups e) = x → x = y → entC d e = y := by
    intro x y h h'
    rw [← h', ← h]
    exact (if_neg (not_not_intro h1)).trans ((if_neg (not_not_intro h2)).trans (if_neg h3))
  (repeat (first | (with_reducible first | apply WP_seq | apply WP_region | apply wpl_nil | apply thenQ_n | apply WP_skip) | ((first | apply wlp | (apply wlg; exact rfl; exact rfl) | (apply wlg2; exact rfl; exact rfl)); (intros; ((first | apply pv_move | apply pv_assign | apply pf_field | (apply pf_load; exact rfl) | (apply pf_len; exact rfl) | exact pv_and rfl rfl rfl | exact pv_or rfl rfl rfl | apply pv_gtr | (apply pv_neq; (first | exact rfl | exact ev_sel rfl (by assumption))) | exact pv_and2 (ev_sel rfl (by assumption)) rfl (by assumption) rfl) <;> (first | exact rfl | exact ev_sel rfl (by assumption) | exact hp.cell 0 rfl rfl | exact hp.cell 1 rfl rfl))); (intros; (first | exact fI rfl | exact fB rfl | exact fP rfl | exact fS rfl | exact ev_sel rfl (by assumption))))))
  refine WP_cond rfl (fun h4 => ?_) (fun h4 => ?_)
  · have h4 : fE d e = true := h4
    have h5 : entC d e = 14 := by
      refine hh rfl ?_
      unfold fE at h4
      rcases chk_kind h1 with hk1 | hk1 | hk1 <;> rw [hk1] at h4 <;> simp [hk1] at h4 ⊢ <;> grind
    (repeat (first | (with_reducible first | apply WP_seq | apply WP_region | apply wpl_nil | apply thenQ_n | apply thenQ_ret | apply WP_ret) | (apply wlp; exact pv_assign; exact rfl)))
    exact ret_tmp rfl rfl ⟨_, rfl, int_eq h5.symm, hp.keeps⟩
  have h4 : fE d e = false := h4
  (repeat (first | (with_reducible first | apply WP_seq | apply WP_block | apply WP_region | apply wpl_nil | apply thenQ_n | apply WP_skip) | (apply wlp; ((first | apply pv_assign | apply pf_field | (apply pf_load; exact rfl) | (apply pv_eql; (first | exact rfl | exact ev_sel rfl (by assumption)))) <;> (first | exact rfl | exact hp.cell 1 rfl rfl)); (first | exact fI rfl | exact fB rfl | exact fP rfl))))
  refine WP_cond_d rfl (fun hk1 => ?_) (fun hk1 => ?_)
  · have hk1 : d.kind = 1 := hk1
    have h5 : (fW e || fG e) = false := by
      unfold fE at h4
      rw [hk1] at h4
      simpa using h4
    have hh := fun {y : Int} => hh (y := y) ((if_pos hk1).trans (if_neg (neT h5)))
    have hpk := chk_pick h1 hk1
    (repeat (first | (with_reducible first | apply WP_seq | apply WP_region | apply wpl_nil | apply thenQ_n) | (apply wlp; ((first | apply pf_field | (apply pf_load; exact rfl) | (apply pf_len; exact rfl) | (apply pv_neq; (first | exact rfl | exact ev_sel rfl (by assumption)))) <;> (first | exact rfl | exact hp.cell 0 rfl rfl | exact hp.cell 1 rfl rfl)); (first | exact fI rfl | exact fB rfl | exact fP rfl | exact fS rfl))))
    refine WP_cond_nd rfl (fun h6 => ?_) (fun h6 => ?_)
    · (repeat (first | (with_reducible first | apply WP_seq | apply WP_region | apply wpl_nil | apply thenQ_n | apply thenQ_ret | apply inBlk_ret | apply WP_ret) | (apply wlp; exact pv_assign; exact rfl)))
      exact ret_tmp rfl rfl ⟨_, rfl, int_eq (hh (if_pos h6)).symm, hp.keeps⟩
    have hh := fun {y : Int} (g : (if okPicks d.pool 0 e.picks = true then (0 : Int) else 15) = y) => hh (y := y) ((if_neg (not_not_intro h6)).trans g)
    (repeat (first | (with_reducible first | apply WP_seq | apply WP_block | apply WP_region | apply wpl_nil | apply thenQ_n | apply WP_skip) | (apply wlp; apply pv_assign; exact fI rfl)))
    refine WP_loopS [4, 8, 78, 79, 80, 81, 82, 83, 84, 85, 86, 87, 88, 89, 90, 91, 92, 93, 94, 95, 96, 97, 98, 99, 100, 101, 102, 103, 104, 105, 106, 107, 108, 109, 110, 111] (fun (i : Nat) F => F.put 8 (.int .i64 i))
      (fun i w' => i ≤ e.picks.length ∧ 0 ≤ lastP e.picks i ∧ okPicks d.pool 0 e.picks = okPicks d.pool (lastP e.picks i) (e.picks.drop i) ∧ Hp w0 [] w' [blk eb 6 (frOf [.int .i64 e.id, .int .i64 e.cls, .int .i64 e.fam, .slice b.sP e.picks.length b.cP, .slice b.sW e.wishes.length b.cW, .slice b.sG e.groups.length b.cG]) 46, blk db 13 (frOf [.string d.name, .int .i64 d.kind, .int .i64 d.round, .int .i64 d.price, .int .i64 d.pool, .int .i64 d.pick, .slice a.sT d.tiers.length a.cT, .bool d.roll, .slice a.sP d.places.length a.cP, .int .i64 d.cls, .int .i64 d.size, .slice a.sQ d.quotas.length a.cQ, .slice a.sB d.barred.length a.cB]) 30])
      (fun i => e.picks.length - i) 0 (put_self (Same.eq .refl) rfl) ⟨Nat.zero_le _, Int.le_refl _, rfl, hp⟩ ?_
    clear hp
    rintro u i w6 ⟨hi, h0, hok, hp⟩
    (repeat (first | (with_reducible first | apply WP_seq | apply WP_region | apply wpl_nil | apply thenQ_n) | (apply wlp; ((first | apply pv_move | apply pf_field | (apply pf_load; exact rfl) | (apply pf_len; exact rfl) | apply pv_lss) <;> (first | exact rfl | exact hp.cell 0 rfl rfl)); (first | exact fI rfl | exact fB rfl | exact fP rfl | exact fS rfl))))
    refine WP_cond_d rfl (fun h7 => ?_) (fun h7 => ?_)
    · have hlt : i < e.picks.length := by omega
      have hlt' : i - 1 < e.picks.length := by omega
      obtain ⟨b0, o0, hs0, hc0⟩ := he.picks.base (by omega)
      have hc1 := hc0 i _ (List.getElem?_eq_getElem hlt) 0 _ rfl
      have hc2 := hc0 (i - 1) _ (List.getElem?_eq_getElem hlt') 0 _ rfl
      rw [okPicks_step hlt] at hok
      (repeat (with_reducible first | apply WP_seq | apply WP_block | apply thenQ_n | apply WP_skip))
      refine WP_draw mixed (by kernel_rfl) (fun w' => Hp _ _ w' _) hp.drew ?_
      have hp := hp.drew
      (repeat ((apply wdp; exact rfl); (intro w hp; intros; ((first | apply pv_move | apply pf_field | (apply pf_load; exact rfl) | (apply pf_index; exact rfl)) <;> (first | exact rfl | assumption | exact hp.cell 0 rfl rfl | exact hp.cell 1 rfl rfl | exact hp.old0 (by assumption)))); (intros; (first | exact fI rfl | exact fP rfl | exact fS rfl))))
      (apply wds; exact rfl; exact st_call rfl ent31 rfl (c31 _ _ _ _))
      rintro _ w7 ⟨rfl, hk⟩
      have hp := hp.call hk
      refine ⟨hp, ?_⟩
      (repeat ((first | (apply wdp; exact rfl) | (apply wdg; exact rfl; exact rfl; exact rfl) | (apply wdg2; exact rfl; exact rfl; exact rfl)); (intro w hp; intros; ((first | apply pv_move | apply pf_field | (apply pf_load; exact rfl) | apply pv_gtr | apply pv_not | (apply pf_index; exact rfl)) <;> (first | exact rfl | exact ev_sel rfl (by assumption) | assumption | exact hp.cell 0 rfl rfl | exact hp.old0 (by assumption)))); (intros; (first | exact fI rfl | exact fB rfl | exact fP rfl | exact fS rfl | exact ev_sel rfl (by assumption)))))
      (apply wdg2 (v := .int .i64 ((i - 1 : Nat) : Int)); exact rfl; exact rfl; exact rfl; (intro w hp hb hc; exact pv_sub (ev_sel rfl hc) rfl); (intro hb hc; exact int_eq (sub_in hc (by omega))))
      (repeat ((first | (apply wdp; exact rfl) | (apply wdg; exact rfl; exact rfl; exact rfl) | (apply wdg2; exact rfl; exact rfl; exact rfl)); (intro w hp; intros; ((first | (apply pf_load; exact rfl) | exact pv_or rfl rfl rfl | apply pv_leq | (apply pf_index; exact rfl) | exact pv_and2 (ev_sel rfl (by assumption)) rfl (by assumption) rfl) <;> (first | exact ev_sel rfl (by assumption) | assumption | exact hp.old0 (by assumption)))); (intros; (first | exact fI rfl | exact fB rfl | exact fP rfl))))
      refine wpd_nil ?_
      (repeat with_reducible apply thenQ_n)
      refine WP_cond rfl (fun h8 => ?_) (fun h8 => ?_)
      · have h9 := (badP_eq (pool := d.pool) hlt h0).symm.trans h8
        rw [h9] at hok
        (repeat (first | (with_reducible first | apply WP_seq | apply WP_region | apply wpl_nil | apply thenQ_n | apply thenQ_ret | apply inBlk_ret | apply WP_ret) | (apply wlp; exact pv_assign; exact rfl)))
        exact ret_tmp rfl rfl ⟨_, rfl, int_eq (hh (if_neg (by rw [hok]; simp))).symm, hp.keeps⟩
      · have h9 := (badP_eq (pool := d.pool) hlt h0).symm.trans h8
        rw [h9] at hok
        simp only [Bool.not_false, Bool.true_and] at hok
        have h10 : 0 ≤ lastP e.picks (i + 1) := by
          rw [lastP_succ hlt]
          simp at h9
          omega
        rw [← lastP_succ hlt] at hok
        (repeat (first | (with_reducible first | apply WP_region | apply thenQ_n | apply inBlk_n | apply WP_skip) | (apply wlp; apply pv_move; exact fI rfl)))
        (apply wlp; exact pv_add rfl rfl; exact int_eq (i64_in (by omega) (by omega)))
        (repeat (first | (with_reducible first | apply wpl_nil | apply thenQ_n) | (apply wlp; apply pv_assign; exact fI rfl)))
        exact ⟨i + 1, put_self (Same.eq (by repeat (first | exact Same.hav | exact Same.refl | refine Same.put rfl ?_ | refine Same.havs rfl ?_))) rfl, ⟨by omega, h10, hok, hp⟩, by omega⟩
    · have ei : i = e.picks.length := by omega
      subst ei
      rw [List.drop_length] at hok
      (repeat (first | (with_reducible first | apply WP_seq | apply WP_region | apply wpl_nil | apply thenQ_n | apply inBlk_n | apply thenQ_exit | apply WP_ret | apply WP_exit) | ((with_reducible apply inBlk_same); exact rfl) | (apply wlp; apply pv_assign; exact fI rfl)))
      exact ret_tmp rfl rfl ⟨_, rfl, int_eq (hh (if_pos hok)).symm, hp.keeps⟩
  (repeat (first | (with_reducible first | apply WP_seq | apply WP_region | apply wpl_nil | apply thenQ_n) | (apply wlp; ((first | apply pv_assign | (apply pv_eql; (first | exact rfl | exact ev_sel rfl (by assumption)))) <;> exact rfl); exact fB rfl)))
  refine WP_cond_d rfl (fun hk2 => ?_) (fun hk2 => ?_)
  · have hk2 : d.kind = 2 := hk2
    have h5 : (fP' e || fG e) = false := by
      unfold fE at h4
      rw [hk2] at h4
      simpa using h4
    have hpl := chk_places h1 hk2
    (repeat (first | (with_reducible first | apply WP_seq | apply WP_region) | (apply wlp; ((apply pf_loadb; exact rfl) <;> (first | exact rfl | exact hp.agg_blk 0 rfl rfl | exact hp.agg_blk 1 rfl rfl)); (first | exact fA6 rfl | exact fA13 rfl))))
    (apply wls; exact st_call rfl ent43 rfl (c43 d a e b _ (hd.keep hp.keeps) (he.keep hp.keeps) (by omega)))
    rintro _ w6 ⟨rfl, hk⟩
    have hp := hp.call hk
    (repeat (first | (with_reducible first | apply wpl_nil | apply thenQ_n | apply thenQ_ret | apply inBlk_ret | apply WP_ret) | (apply wlp; apply pv_assign; exact fI rfl)))
    exact ret_tmp rfl rfl ⟨_, rfl, int_eq (hh ((if_neg hk1).trans (if_pos hk2)) (if_neg (neT h5))).symm, hp.keeps⟩
  have hk3 : d.kind = 3 := by
    rcases chk_kind h1 with e | e | e
    · exact absurd e hk1
    · exact absurd e hk2
    · exact e
  have h5 : (fP' e || fW e) = false := by
    unfold fE at h4
    rw [hk3] at h4
    simpa using h4
  have hh := fun {y : Int} => hh (y := y) ((if_neg hk1).trans ((if_neg hk2).trans (if_neg (neT h5))))
  (repeat (first | (with_reducible first | apply WP_seq | apply WP_region | apply wpl_nil | apply thenQ_n) | (apply wlp; ((first | apply pv_assign | (apply pv_eql; (first | exact rfl | exact ev_sel rfl (by assumption)))) <;> exact rfl); exact fB rfl)))
  refine WP_cond_d rfl (fun _ => ?_) (fun h => absurd hk3 h)
  (repeat (first | (with_reducible first | apply WP_seq | apply WP_region | apply wpl_nil | apply thenQ_n) | (apply wlp; ((first | apply pf_field | (apply pf_load; exact rfl) | (apply pf_len; exact rfl) | apply pv_gtr) <;> (first | exact rfl | exact hp.cell 0 rfl rfl)); (first | exact fI rfl | exact fB rfl | exact fP rfl | exact fS rfl))))
  refine WP_cond_d rfl (fun h => ?_) (fun h6 => ?_)
  · (repeat (first | (with_reducible first | apply WP_seq | apply WP_region | apply wpl_nil | apply thenQ_n | apply thenQ_ret | apply inBlk_ret | apply WP_ret) | (apply wlp; exact pv_assign; exact rfl)))
    exact ret_tmp rfl rfl ⟨_, rfl, int_eq (hh (if_pos h)).symm, hp.keeps⟩
  have hh := fun {y : Int} (g : (if e.groups.all isWordB = false then (13 : Int) else if nodupB e.groups = false then 33 else 0) = y) => hh (y := y) ((if_neg h6).trans g)
  (repeat (first | (with_reducible first | apply WP_seq | apply WP_block | apply WP_region | apply wpl_nil | apply thenQ_n | apply WP_skip) | (apply wlp; apply pv_assign; exact fI rfl)))
  refine WP_loopS [4, 9, 123, 124, 125, 126, 127, 128, 129, 130, 131, 132, 133, 134, 135, 136] (fun (i : Nat) F => F.put 9 (.int .i64 i))
    (fun i w' => i ≤ e.groups.length ∧ (e.groups.take i).all isWordB = true ∧ Hp w0 [] w' [blk eb 6 (frOf [.int .i64 e.id, .int .i64 e.cls, .int .i64 e.fam, .slice b.sP e.picks.length b.cP, .slice b.sW e.wishes.length b.cW, .slice b.sG e.groups.length b.cG]) 46, blk db 13 (frOf [.string d.name, .int .i64 d.kind, .int .i64 d.round, .int .i64 d.price, .int .i64 d.pool, .int .i64 d.pick, .slice a.sT d.tiers.length a.cT, .bool d.roll, .slice a.sP d.places.length a.cP, .int .i64 d.cls, .int .i64 d.size, .slice a.sQ d.quotas.length a.cQ, .slice a.sB d.barred.length a.cB]) 30])
    (fun i => e.groups.length - i) 0 (put_self (Same.eq .refl) rfl) ⟨Nat.zero_le _, by simp, hp⟩ ?_
  clear hp
  rintro u i w6 ⟨hi, hall, hp⟩
  (repeat (first | (with_reducible first | apply WP_seq | apply WP_region | apply wpl_nil | apply thenQ_n) | (apply wlp; ((first | apply pv_move | apply pf_field | (apply pf_load; exact rfl) | (apply pf_len; exact rfl) | apply pv_lss) <;> (first | exact rfl | exact hp.cell 0 rfl rfl)); (first | exact fI rfl | exact fB rfl | exact fP rfl | exact fS rfl))))
  refine WP_cond_d rfl (fun h7 => ?_) (fun h7 => ?_)
  · have hlt : i < e.groups.length := by omega
    obtain ⟨b0, o0, hs0, hc0⟩ := he.groups.base (by omega)
    have hc1 := hc0 i _ (List.getElem?_eq_getElem hlt) 0 _ rfl
    (repeat (first | (with_reducible first | apply WP_seq | apply WP_block | apply WP_region | apply thenQ_n | apply WP_skip) | (apply wlp; ((first | apply pv_move | apply pf_field | (apply pf_load; exact rfl) | (apply pf_index; exact rfl)) <;> (first | exact rfl | assumption | exact hp.cell 0 rfl rfl | exact hp.old0 (by assumption))); (first | exact fI rfl | exact fP rfl | exact fS rfl | exact fT rfl))))
    (apply wls; exact st_call rfl ent30 rfl (c30 _ _ (hez.groups _ (List.getElem_mem hlt))))
    rintro _ w7 ⟨rfl, hk⟩
    have hp := hp.call hk
    (repeat (first | (with_reducible first | apply wpl_nil | apply thenQ_n) | (apply wlp; (apply pv_not <;> exact rfl); exact fB rfl)))
    refine WP_cond rfl (fun h8 => ?_) (fun h8 => ?_)
    · have h9 : isWordB e.groups[i] = false := by simpa using h8
      (repeat (first | (with_reducible first | apply WP_seq | apply WP_region | apply wpl_nil | apply thenQ_n | apply thenQ_ret | apply inBlk_ret | apply WP_ret) | (apply wlp; exact pv_assign; exact rfl)))
      exact ret_tmp rfl rfl ⟨_, rfl, int_eq (hh (if_pos (all_false_of hlt h9))).symm, hp.keeps⟩
    · have h9 : isWordB e.groups[i] = true := by simpa using h8
      (repeat (first | (with_reducible first | apply WP_region | apply thenQ_n | apply inBlk_n | apply WP_skip) | (apply wlp; apply pv_move; exact fI rfl)))
      (apply wlp; exact pv_add rfl rfl; exact int_eq (i64_in (by omega) (by omega)))
      (repeat (first | (with_reducible first | apply wpl_nil | apply thenQ_n) | (apply wlp; apply pv_assign; exact fI rfl)))
      exact ⟨i + 1, put_self (Same.eq (by repeat (first | exact Same.hav | exact Same.refl | refine Same.put rfl ?_ | refine Same.havs rfl ?_))) rfl, ⟨by omega, all_take_succ hlt hall h9, hp⟩, by omega⟩
  · have ei : i = e.groups.length := by omega
    subst ei
    rw [List.take_length] at hall
    have h8 : ¬ e.groups.all isWordB = false := by rw [hall]; simp
    (repeat (first | (with_reducible first | apply WP_seq | apply WP_region | apply thenQ_n | apply thenQ_exit | apply WP_exit) | ((with_reducible apply inBlk_same); exact rfl) | (apply wlp; ((first | apply pf_field | (apply pf_load; exact rfl)) <;> (first | exact rfl | exact hp.cell 0 rfl rfl)); (first | exact fP rfl | exact fS rfl))))
    (apply wls; exact st_call rfl ent44 rfl (c44 b.sG b.cG e.groups _ (by omega) (he.groups.keep0 hp.keeps)))
    rintro _ w8 ⟨rfl, hk⟩
    have hp := hp.call hk
    (repeat (with_reducible first | apply wpl_nil | apply thenQ_n))
    refine WP_cond rfl (fun h2' => ?_) (fun h2' => ?_)
    · (repeat (first | (with_reducible first | apply WP_seq | apply WP_region | apply wpl_nil | apply thenQ_n | apply thenQ_ret | apply inBlk_ret | apply WP_ret) | (apply wlp; exact pv_assign; exact rfl)))
      exact ret_tmp rfl rfl ⟨_, rfl, int_eq (hh ((if_neg h8).trans (if_pos (by simpa using h2')))).symm, hp.keeps⟩
    · (repeat (first | (with_reducible first | apply WP_seq | apply WP_region | apply wpl_nil | apply thenQ_n | apply inBlk_n | apply WP_ret | apply WP_skip) | (apply wlp; exact pv_assign; exact rfl)))
      exact ret_tmp rfl rfl ⟨_, rfl, int_eq (hh ((if_neg h8).trans (if_neg (by simpa using h2')))).symm, hp.keeps⟩
end Go.Proofs.Ytgephdcapajaiaa
