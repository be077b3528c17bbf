/- nat: Right; ratio: right, value, reduce, Make, Of; conditions: numbers that are not negative, in lowest terms where they are arguments. -/
import Derived.Test.YteklkjnhefnimaaDoorEe
namespace Go.Proofs.YteklkjnhefnimaaDoor
open Go.Eng Go.Dig

/-- a rational number that is not negative, as it is held -/
def RV (n d : Nat) : Value := .agg #[.bool false, .string (ofN n), .string (ofN d)]
theorem ofN_eq (m n : Nat) : decide (ofN m = ofN n) = decide (m = n) := by
  by_cases h : m = n
  · subst h; simp
  · rw [decide_eq_false h, decide_eq_false (fun e => h (ofN_inj e))]
theorem ofN_one : ofN 1 = ⟨#[1]⟩ := rfl
theorem ofN_top {n : Nat} (h : n ≠ 0) : 0 < (ofN n).size ∧ bAt (ofN n) 0 ≠ 0 := by
  rcases snoc_cases (digs 256 n) with h0 | ⟨m, d, h1⟩
  · exact absurd ((digs_eq_nil (by decide)).1 h0) h
  · have h2 := digs_last (by decide) n m d h1
    have h3 : d < 256 := digs_bd (by decide) n d (by rw [h1]; simp)
    refine ⟨by rw [ofN_size, h1]; simp, ?_⟩
    unfold bAt ofN
    rw [h1]
    simp
    omega
theorem run_cellRes2 {n : Nat} {F : Fr} {w : World} {fn : Func} {p ty b o k t : Nat} {vs : List Value} {v2 : Value} (h : fn.results = #[.cell p ty, .tmp t]) (h1 : manyTy ty = some k) (hz : sizeTy ty = some k) (hx : ev n F (.tmp p) = .pointer (some ⟨b, o, none⟩)) (hv2 : ev n F (.tmp t) = v2) (hl : vs.length = k)
    (hc : ∀ (j : Nat) (v : Value), vs[j]? = some v → w.cell? ⟨b, o + j, none⟩ = some v) : (results fn (act n F).tmps).run Tryd.prog w = .ok (.tuple #[.agg vs.toArray, v2]) w := by
  obtain ⟨q, hq, hq1⟩ := manyTy_ok h1
  have hk := sizeTy_ok hz
  subst hl
  have := run_loadFrom (P := Tryd.prog) (w := w) b o vs 0 #[] (fun j v hv => by simpa using hc j v hv)
  have hx' : (act n F).tmps.getD p undef = .pointer (some ⟨b, o, none⟩) := by
    rw [← hx, ← act_eval]
    rfl
  have hx2 : (act n F).tmps[p]?.getD undef = .pointer (some ⟨b, o, none⟩) := by simpa using hx'
  have hy' : (act n F).tmps.getD t undef = v2 := by
    rw [← hv2, ← act_eval]
    rfl
  have hy2 : (act n F).tmps[t]?.getD undef = v2 := by simpa using hy'
  simp [results, h, hx2, hy2, asAddr, loadVar, run_many hq hq1, loadCells, hk.run, this]
theorem ret_cell2 {n : Nat} {F : Fr} {w : World} {fn : Func} {R : Ending → World → Prop} {p ty b o k t : Nat} {v2 : Value} {f : Fr} (h : fn.results = #[.cell p ty, .tmp t]) (h1 : manyTy ty = some k) (hz : sizeTy ty = some k) (hx : ev n F (.tmp p) = .pointer (some ⟨b, o, none⟩)) (hv2 : ev n F (.tmp t) = v2)
    (hc : ∀ (j : Nat) (v : Value), ((List.range k).map fun j => f (o + j))[j]? = some v → w.cell? ⟨b, o + j, none⟩ = some v) (hr : R (.returned (.tuple #[.agg ((List.range k).map fun j => f (o + j)).toArray, v2])) w) : retQ Tryd.prog n fn R .ret F w :=
  ⟨_, run_cellRes2 h h1 hz hx hv2 (by simp) hc, hr⟩

attribute [local irreducible] PV StepF wpl wpd WP Ret
attribute [local irreducible] Fit RB

theorem c81 (x : Nat) (w : World) : Ret Tryd.prog 81 [.string (ofN x)] w (fun v w' => v = .bool true ∧ Keeps [] w w') := by
  have he := ofN_eq x 0
  refine Ret.of_WP Tryd.func81 rfl Tryd.ntmps81 rfl ?_
  have hp := Hp.start (M := []) (w := w)
  (repeat (with_reducible first | apply WP_seq | apply WP_region))
  (apply wlp; apply pv_assign; exact fB rfl)
  (repeat (with_reducible first | apply WP_seq | apply WP_region | apply wpl_nil | apply thenQ_n))
  (apply wlp; apply pv_move; exact fT rfl)
  by_cases h0 : x = 0
  · subst h0
    (apply wlp; exact pv_seql rfl rfl; exact bool_eq (b := true) rfl)
    (repeat (first | (with_reducible first | apply wpl_nil | apply thenQ_n | apply WP_ret) | (apply wlp; (intros; (first | apply pv_move | apply pv_assign | exact pv_orT rfl)); (intros; exact fB rfl)) | (apply wlpF; exact rfl; exact rfl; exact rfl) | (apply wlpU; exact rfl; exact rfl)))
    exact ret_tmp rfl rfl ⟨_, rfl, rfl, hp.keeps⟩
  · obtain ⟨hsz, hb⟩ := ofN_top h0
    (apply wlp; exact pv_seql rfl rfl; exact bool_eq (b := false) (he.trans (decide_eq_false h0)))
    (apply wlp; apply pv_move; exact fB rfl)
    ((apply wlpT; exact rfl; exact rfl); (apply pv_move); (intros; exact fT rfl))
    (apply wlpT; exact rfl; exact rfl; exact pf_index_s (i := 0) rfl rfl rfl hsz; exact fI rfl)
    (apply wlpT; exact rfl; exact rfl; exact pv_neq rfl rfl; exact bool_eq (b := true) (ndt hb))
    (repeat (first | (with_reducible first | apply wpl_nil | apply thenQ_n | apply WP_ret) | (apply wlp; (intros; (first | apply pv_assign | exact pv_orF rfl rfl)); (intros; exact fB rfl)) | (apply wlpF; exact rfl; exact rfl; exact rfl) | (apply wlpU; exact rfl; exact rfl)))
    exact ret_tmp rfl rfl ⟨_, rfl, rfl, hp.keeps⟩
theorem c82 (n d : Nat) (w : World) (hn : Fit n) (hd : Fit d) (hd0 : 0 < d) (hg : Nat.gcd n d = 1) : Ret Tryd.prog 82 [RV n d] w (fun v w' => v = .bool true ∧ Keeps [] w w') := by
  have he := ofN_eq d 0
  have hen := ofN_eq n 0
  refine Ret.of_WP Tryd.func82 rfl Tryd.ntmps82 rfl ?_
  have hp := Hp.start (M := []) (w := w)
  (repeat (first | (with_reducible first | apply WP_seq | apply WP_region | apply wpl_nil | apply thenQ_n) | (apply wlp; ((first | apply pv_assign | apply pf_field | (apply pf_load; exact rfl)) <;> (first | exact rfl | exact hp.cell 0 rfl rfl)); (first | exact fB rfl | exact fP rfl | exact fT rfl)) | (apply wls; exact sbox3 hp rfl; rintro _ w ⟨b, rfl, hp⟩)))
  (apply wls; exact st_call rfl ent81 rfl (c81 n _))
  rintro _ w1 ⟨rfl, hk⟩
  have hp := hp.call hk
  (repeat (first | (apply wlp; (intros; ((first | apply pv_move | apply pf_field | (apply pf_load; exact rfl) | apply pv_not) <;> (first | exact rfl | exact hp.cell 0 rfl rfl))); (intros; (first | exact fB rfl | exact fP rfl | exact fT rfl))) | ((apply wlpT; exact rfl; exact rfl); (((first | apply pv_move | apply pf_field | (apply pf_load; exact rfl) | apply pv_not) <;> (first | exact rfl | exact hp.cell 0 rfl rfl))); (intros; (first | exact fB rfl | exact fP rfl | exact fT rfl))) | (apply wlpF; exact rfl; exact rfl; exact rfl) | (apply wlpU; exact rfl; exact rfl)))
  (apply wlsT; exact rfl; exact rfl; exact st_call rfl ent81 rfl (c81 d _); rintro _ w2 ⟨rfl, hk⟩; have hp := hp.call hk)
  (repeat (first | (with_reducible first | apply wpl_nil | apply thenQ_n) | (apply wlp; (intros; ((first | apply pv_move | apply pf_field | (apply pf_load; exact rfl) | exact pv_orF rfl rfl | apply pv_not | (apply pv_seql; (first | exact rfl | exact ev_sel rfl (by assumption)))) <;> (first | exact rfl | exact hp.cell 0 rfl rfl))); (intros; (first | exact fB rfl | exact fP rfl | exact fT rfl))) | ((apply wlpT; exact rfl; exact rfl); (((first | apply pv_move | apply pf_field | (apply pf_load; exact rfl) | exact pv_orF rfl rfl | apply pv_not | (apply pv_seql; (first | exact rfl | exact ev_sel rfl (by assumption)))) <;> (first | exact rfl | exact hp.cell 0 rfl rfl))); (intros; (first | exact fB rfl | exact fP rfl | exact fT rfl))) | (apply wlpF; exact rfl; exact rfl; exact rfl) | (apply wlpU; exact rfl; exact rfl)))
  refine WP_cond_d rfl (fun h => absurd (ofN_inj (n := 0) h) (by omega)) (fun _ => ?_)
  (repeat (with_reducible first | apply WP_seq | apply WP_region | apply thenQ_n | apply WP_skip))
  (apply wlp; (apply pf_field <;> exact rfl); exact fP rfl)
  (apply wlp; ((apply pf_load; exact rfl) <;> (first | exact rfl | exact hp.cell 0 rfl rfl)); exact fT rfl)
  by_cases h0 : n = 0
  · subst h0
    (apply wlp; exact pv_seql rfl rfl; exact bool_eq (b := true) rfl)
    (repeat (first | (with_reducible first | apply wpl_nil | apply thenQ_n) | (apply wlp; (intros; ((first | apply pv_move | apply pf_field | (apply pf_load; exact rfl) | exact pv_andT rfl rfl) <;> (first | exact rfl | exact hp.cell 0 rfl rfl))); (intros; (first | exact fB rfl | exact fP rfl))) | ((apply wlpT; exact rfl; exact rfl); (((first | apply pv_move | apply pf_field | (apply pf_load; exact rfl) | exact pv_andT rfl rfl) <;> (first | exact rfl | exact hp.cell 0 rfl rfl))); (intros; (first | exact fB rfl | exact fP rfl))) | (apply wlpF; exact rfl; exact rfl; exact rfl) | (apply wlpU; exact rfl; exact rfl)))
    refine WP_cond_f rfl ?_
    (repeat (first | (with_reducible first | apply WP_seq | apply WP_region | apply thenQ_n | apply WP_skip) | (apply wlp; ((first | apply pf_field | (apply pf_load; exact rfl)) <;> (first | exact rfl | exact hp.cell 0 rfl rfl)); (first | exact fP rfl | exact fT rfl))))
    (apply wls; exact st_call rfl ent84 rfl (c84 0 d _ hn hd))
    rintro _ w3 ⟨rfl, hk⟩
    have hp := hp.call hk
    rw [hg]
    (apply wlp; exact pv_seql rfl rfl; exact bool_eq (b := true) rfl)
    (repeat (first | (with_reducible first | apply wpl_nil | apply thenQ_n | apply WP_ret) | (apply wlp; apply pv_assign; exact fB rfl)))
    exact ret_tmp rfl rfl ⟨_, rfl, rfl, hp.keeps⟩
  · (apply wlp; exact pv_seql rfl rfl; exact bool_eq (b := false) (hen.trans (decide_eq_false h0)))
    (repeat (first | (with_reducible first | apply wpl_nil | apply thenQ_n) | (apply wlp; (intros; (first | apply pv_move | exact pv_andF rfl)); (intros; exact fB rfl)) | (apply wlpF; exact rfl; exact rfl; exact rfl) | (apply wlpU; exact rfl; exact rfl)))
    refine WP_cond_f rfl ?_
    (repeat (first | (with_reducible first | apply WP_seq | apply WP_region | apply thenQ_n | apply WP_skip) | (apply wlp; ((first | apply pf_field | (apply pf_load; exact rfl)) <;> (first | exact rfl | exact hp.cell 0 rfl rfl)); (first | exact fP rfl | exact fT rfl))))
    (apply wls; exact st_call rfl ent84 rfl (c84 n d _ hn hd))
    rintro _ w3 ⟨rfl, hk⟩
    have hp := hp.call hk
    rw [hg]
    (apply wlp; exact pv_seql rfl rfl; exact bool_eq (b := true) rfl)
    (repeat (first | (with_reducible first | apply wpl_nil | apply thenQ_n | apply WP_ret) | (apply wlp; apply pv_assign; exact fB rfl)))
    exact ret_tmp rfl rfl ⟨_, rfl, rfl, hp.keeps⟩
theorem c60 (n d : Nat) (w : World) (hn : Fit n) (hd : Fit d) (hd0 : 0 < d) (hg : Nat.gcd n d = 1) : Ret Tryd.prog 60 [RV n d] w (fun v w' => v = RV n d ∧ Keeps [] w w') := by
  refine Ret.of_WP Tryd.func60 rfl Tryd.ntmps60 rfl ?_
  have hp := Hp.start (M := []) (w := w)
  (repeat (first | (with_reducible first | apply WP_seq | apply WP_region | apply wpl_nil | apply thenQ_n) | (apply wlp; ((first | apply pv_move | apply pv_assign | (apply pf_loadb; exact rfl) | apply pv_func) <;> (first | exact rfl | exact hp.agg_blk 1 rfl rfl)); (first | exact fF rfl | exact fA3 rfl)) | (apply wls; (first | exact sbox3 hp rfl | exact salloc3 hp (zeroTy_ok rfl)); rintro _ w ⟨b, rfl, hp⟩)))
  (apply wls; exact st_call rfl ent82 rfl (c82 n d _ hn hd hd0 hg))
  rintro _ w1 ⟨rfl, hk⟩
  have hp := hp.call hk
  (repeat (first | (with_reducible first | apply wpl_nil | apply thenQ_n) | (apply wlp; (apply pv_not <;> exact rfl); exact fB rfl)))
  refine WP_cond_f rfl ?_
  (repeat (first | (with_reducible first | apply WP_seq | apply WP_region | apply wpl_nil | apply thenQ_n | apply WP_ret | apply WP_skip) | (apply wlp; ((apply pf_loadb; exact rfl) <;> (first | exact rfl | exact hp.agg_blk 1 rfl rfl)); exact fA3 rfl) | (apply wls0; exact sstore3 hp 0 rfl rfl rfl rfl (sizeTy_ok rfl) rfl; rintro _ w ⟨rfl, hp⟩)))
  exact ret_cell rfl rfl rfl rfl (hp.agg_blk 0 rfl rfl) ⟨_, rfl, rfl, hp.keeps⟩
theorem c61 (n d : Nat) (w : World) (hn : Fit n) (hd : Fit d) (hd0 : 0 < d) : Ret Tryd.prog 61 [.bool false, .string (ofN n), .string (ofN d)] w (fun v w' => v = RV (n / Nat.gcd n d) (d / Nat.gcd n d) ∧ Keeps [] w w') := by
  have hg0 : 0 < Nat.gcd n d := Nat.gcd_pos_of_pos_right n hd0
  have hgf : Fit (Nat.gcd n d) := hd.le (Nat.le_of_dvd hd0 (Nat.gcd_dvd_right n d))
  refine Ret.of_WP Tryd.func61 rfl Tryd.ntmps61 rfl ?_
  have hp := Hp.start (M := []) (w := w)
  (repeat (first | (with_reducible first | apply WP_seq | apply WP_region | apply wpl_nil | apply thenQ_n) | (apply wlp; apply pv_move; exact fT rfl) | (apply wls; exact salloc3 hp (zeroTy_ok rfl); rintro _ w ⟨b, rfl, hp⟩)))
  (apply wls; exact st_call rfl ent84 rfl (c84 n d _ hn hd))
  rintro _ w1 ⟨rfl, hk⟩
  have hp := hp.call hk
  (repeat (first | (with_reducible first | apply WP_seq | apply WP_region | apply wpl_nil | apply thenQ_n) | (apply wlp; (first | apply pv_move | apply pv_assign); exact fT rfl)))
  (apply wls; exact st_call rfl ent24 rfl (c24 _ _ _ hn hgf hg0))
  rintro _ w2 ⟨rfl, hk⟩
  have hp := hp.call hk
  (repeat (first | (with_reducible first | apply WP_seq | apply WP_region | apply wpl_nil | apply thenQ_n) | (apply wlp; ((first | apply pv_move | apply pv_assign | apply pv_extract) <;> exact rfl); (first | exact fB rfl | exact fT rfl | exact fU rfl))))
  (apply wls; exact st_call rfl ent24 rfl (c24 _ _ _ hd hgf hg0))
  rintro _ w3 ⟨rfl, hk⟩
  have hp := hp.call hk
  (repeat (first | (with_reducible first | apply WP_seq | apply WP_region | apply wpl_nil | apply thenQ_n) | ((first | apply wlp | (apply wlg; exact rfl; exact rfl)); (intros; ((first | apply pv_move | apply pv_assign | (apply pv_neq; (first | exact rfl | exact ev_sel rfl (by assumption))) | apply pv_extract) <;> exact rfl)); (intros; (first | exact fB rfl | exact fT rfl | exact fU rfl)))))
  (repeat (first | (apply wlp; (intros; ((first | apply pv_move | exact pv_andF rfl | (apply pf_build; exact rfl)) <;> exact rfl)); (intros; (first | exact fB rfl | exact fT rfl | exact fA3 rfl))) | (apply wlpF; exact rfl; exact rfl; exact rfl) | (apply wlpU; exact rfl; exact rfl)))
  (repeat (first | (with_reducible first | apply wpl_nil | apply thenQ_n | apply WP_ret) | (apply wls0; exact sstore3 hp 0 rfl rfl rfl rfl (sizeTy_ok rfl) rfl; rintro _ w ⟨rfl, hp⟩)))
  exact ret_cell rfl rfl rfl rfl (hp.agg_blk 0 rfl rfl) ⟨_, rfl, rfl, hp.keeps⟩
theorem c59 (n d : Nat) (w : World) (hn : Fit n) (hd : Fit d) (hd0 : 0 < d) : Ret Tryd.prog 59 [.bool false, .string (ofN n), .string (ofN d)] w (fun v w' => v = .tuple #[RV (n / Nat.gcd n d) (d / Nat.gcd n d), .bool true] ∧ Keeps [] w w') := by
  refine Ret.of_WP Tryd.func59 rfl Tryd.ntmps59 rfl ?_
  have hp := Hp.start (M := []) (w := w)
  (repeat (first | (with_reducible first | apply WP_seq | apply WP_region | apply wpl_nil | apply thenQ_n) | (apply wlp; (first | apply pv_move | apply pv_assign); (first | exact fB rfl | exact fT rfl)) | (apply wls; exact salloc3 hp (zeroTy_ok rfl); rintro _ w ⟨b, rfl, hp⟩)))
  (apply wls; exact st_call rfl ent81 rfl (c81 n _))
  rintro _ w1 ⟨rfl, hk⟩
  have hp := hp.call hk
  (repeat (first | (apply wlp; (intros; ((first | apply pv_move | apply pv_not) <;> exact rfl)); (intros; (first | exact fB rfl | exact fT rfl))) | ((apply wlpT; exact rfl; exact rfl); (((first | apply pv_move | apply pv_not) <;> exact rfl)); (intros; (first | exact fB rfl | exact fT rfl))) | (apply wlpF; exact rfl; exact rfl; exact rfl) | (apply wlpU; exact rfl; exact rfl)))
  (apply wlsT; exact rfl; exact rfl; exact st_call rfl ent81 rfl (c81 d _); rintro _ w2 ⟨rfl, hk⟩; have hp := hp.call hk)
  (repeat (first | (with_reducible first | apply wpl_nil | apply thenQ_n) | (apply wlp; (intros; ((first | apply pv_move | exact pv_orF rfl rfl | apply pv_not | (apply pv_seql; (first | exact rfl | exact ev_sel rfl (by assumption)))) <;> exact rfl)); (intros; (first | exact fB rfl | exact fT rfl))) | ((apply wlpT; exact rfl; exact rfl); (((first | apply pv_move | exact pv_orF rfl rfl | apply pv_not | (apply pv_seql; (first | exact rfl | exact ev_sel rfl (by assumption)))) <;> exact rfl)); (intros; (first | exact fB rfl | exact fT rfl))) | (apply wlpF; exact rfl; exact rfl; exact rfl) | (apply wlpU; exact rfl; exact rfl)))
  refine WP_cond_d rfl (fun h => absurd (ofN_inj (n := 0) h) (by omega)) (fun _ => ?_)
  (repeat (first | (with_reducible first | apply WP_seq | apply WP_region | apply thenQ_n | apply WP_skip) | (apply wlp; apply pv_move; (first | exact fB rfl | exact fT rfl))))
  (apply wls; exact st_call rfl ent61 rfl (c61 n d _ hn hd hd0))
  rintro _ w3 ⟨rfl, hk⟩
  have hp := hp.call hk
  (apply wls0; exact sstore3 hp 0 rfl rfl rfl rfl (sizeTy_ok rfl) rfl; rintro _ w4 ⟨rfl, hp⟩)
  (repeat (first | (with_reducible first | apply wpl_nil | apply thenQ_n | apply WP_ret) | (apply wlp; apply pv_assign; exact fB rfl)))
  exact ret_cell2 rfl rfl rfl rfl rfl (hp.agg_blk 0 rfl rfl) ⟨_, rfl, rfl, hp.keeps⟩
theorem c32 (a : Int) (w : World) (h0 : 0 ≤ a) (h2 : a ≤ 9223372036854775807) : Ret Tryd.prog 32 [.int .i64 a] w (fun v w' => v = RV a.toNat 1 ∧ Keeps [] w w') := by
  refine Ret.of_WP Tryd.func32 rfl Tryd.ntmps32 rfl ?_
  have hp := Hp.start (M := []) (w := w)
  (repeat (first | (with_reducible first | apply WP_seq | apply WP_region | apply wpl_nil | apply thenQ_n) | (apply wlp; ((first | apply pv_move | apply pv_lss) <;> exact rfl); (first | exact fI rfl | exact fB rfl)) | (apply wls; exact salloc3 hp (zeroTy_ok rfl); rintro _ w ⟨b, rfl, hp⟩)))
  refine WP_cond_d rfl (fun h => absurd h (by omega)) (fun _ => ?_)
  (repeat (first | (with_reducible first | apply WP_seq | apply WP_region | apply thenQ_n | apply WP_skip) | (apply wlp; apply pv_move; exact fI rfl)))
  (apply wls; exact st_call rfl ent13 rfl (c13 a _ h2))
  rintro _ w1 ⟨rfl, hk⟩
  have hp := hp.call hk
  (repeat (first | (with_reducible first | apply wpl_nil | apply thenQ_n | apply WP_ret) | (apply wlp; ((apply pf_build; exact rfl) <;> exact rfl); exact fA3 rfl) | (apply wls0; exact sstore3 hp 0 rfl rfl rfl rfl (sizeTy_ok rfl) rfl; rintro _ w ⟨rfl, hp⟩)))
  exact ret_cell rfl rfl rfl rfl (hp.agg_blk 0 rfl rfl) ⟨_, rfl, rfl, hp.keeps⟩
end Go.Proofs.YteklkjnhefnimaaDoor
