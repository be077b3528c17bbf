/- Merged texts of ours: Gd Ge Ha Zc Ja Jb Jc Nh Jd; conditions are the hypotheses of each law. -/
import Derived.Test.YteklkjnhefnimaaDoorQ2
/- Printed by gen_gd.py. sortesref01: trim, minus, Sub, Add, Mul; conditions: the numbers are short. -/
namespace Go.Proofs.YteklkjnhefnimaaDoor
open Go.Eng Go.Dig

theorem trim_d24 {l : List Nat} (h : Bd 16777216 l) : trimL l = d24 (val 16777216 l) := trimL_digs (by decide) h
theorem pn_quoI {n : Nat} {F : Fr} {w : World} {d : Option Tmp} {ty : TypeId} {pos : String} {aft : Array Edge} {g : Option (Nat × Bool)} {x y : Operand} {t t' a b : Nat} (hx : ev n F x = .int .i64 (a : Int)) (hy : ev n F y = .int .i64 (b : Int)) (hb : 0 < b) (ha : a ≤ 9223372036854775807) : PV Tryd.prog n w F ⟨d, .binOp .quo t x y t', ty, pos, aft, g⟩ (.int .i64 ((a / b : Nat) : Int)) := by
  have h := pv_quo (P := Tryd.prog) (w := w) (d := d) (ty := ty) (pos := pos) (aft := aft) (g := g) (t := t) (t' := t') hx hy (by omega)
  rwa [i64_quo b ha] at h
theorem pn_remI {n : Nat} {F : Fr} {w : World} {d : Option Tmp} {ty : TypeId} {pos : String} {aft : Array Edge} {g : Option (Nat × Bool)} {x y : Operand} {t t' a b : Nat} (hx : ev n F x = .int .i64 (a : Int)) (hy : ev n F y = .int .i64 (b : Int)) (hb : 0 < b) : PV Tryd.prog n w F ⟨d, .binOp .rem t x y t', ty, pos, aft, g⟩ (.int .i64 ((a % b : Nat) : Int)) := by
  have h := pv_rem (P := Tryd.prog) (w := w) (d := d) (ty := ty) (pos := pos) (aft := aft) (g := g) (t := t) (t' := t') hx hy (by omega)
  rwa [int_rem] at h
theorem val_snoc (b : Nat) (l : List Nat) (d : Nat) : val b (l ++ [d]) = val b l + b ^ l.length * d := by rw [val_append, val_single]

attribute [local irreducible] PV StepF wpl wpd WP Ret
attribute [local irreducible] Fit RB

theorem c89 (l : List Nat) (s : Option Addr) (c : Nat) (w : World) (hc : l.length ≤ c) (hm : l.length ≤ 1000000) (hs : SlAt w 1 eD s l) :
    Ret Tryd.prog 89 [.slice s l.length c] w (fun v w' => v = .slice s (trimL l).length c ∧ Keeps [] w w') := by
  refine Ret.of_WP Tryd.func89 rfl Tryd.ntmps89 rfl ?_
  have hp := Hp.start (M := []) (w := w)
  (repeat (first | (with_reducible first | apply WP_seq | apply WP_block | apply WP_region | apply wpl_nil | apply thenQ_n | apply inBlk_n | apply thenQ_ret | apply inBlk_ret | apply thenQ_exit | apply WP_ret | apply WP_exit | apply WP_skip | apply WP_label | apply WP_scope | apply ngQ_n | apply ngQ_ret) | ((with_reducible apply inBlk_same); exact rfl) | ((with_reducible apply inBlk_other); exact rfl) | ((first | apply wlp | (apply wlg; exact rfl; exact rfl) | (apply wlg2; exact rfl; exact rfl)); (intros; ((first | apply pv_move | apply pv_assign | apply pf_field | (apply pf_load; exact rfl) | (apply pf_loadb; exact rfl) | (apply pf_len; exact rfl) | (apply pf_lens; exact rfl) | exact pv_andF rfl | exact pv_orT rfl | exact pv_andT rfl rfl | exact pv_orF rfl rfl | exact pv_and rfl rfl rfl | exact pv_or rfl rfl rfl | apply pv_lss | apply pv_leq | apply pv_gtr | apply pv_geq | (apply pv_eql; (first | exact rfl | exact ev_sel rfl (by assumption))) | (apply pv_neq; (first | exact rfl | exact ev_sel rfl (by assumption))) | apply pv_min | apply pv_not | apply pv_extract | apply pv_func | apply pv_nil | (apply pf_index; exact rfl) | apply pf_index_s | exact pn_64of32 rfl rfl rfl (by assumption) | exact pn_32of rfl rfl rfl | exact pn_8of rfl rfl rfl | apply pf_conv | (apply pf_build; exact rfl) | exact pv_and2 (ev_sel rfl (by assumption)) rfl (by assumption) rfl | exact pv_or2 (ev_sel rfl (by assumption)) rfl (by assumption) rfl | exact pv_and' rfl rfl | exact pv_or' rfl rfl | (apply pv_seql; (first | exact rfl | exact ev_sel rfl (by assumption))) | (apply pv_sneq; (first | exact rfl | exact ev_sel rfl (by assumption))) | apply pf_build_a | (apply pf_index_a; exact rfl)) <;> (first | exact rfl | exact ev_sel rfl (by assumption) | assumption | exact hp.cell 0 rfl rfl | exact hp.cell 1 rfl rfl | exact hp.cell 2 rfl rfl | exact hp.cell 3 rfl rfl | exact hp.agg_blk 0 rfl rfl | exact hp.agg_blk 1 rfl rfl | exact hp.agg_blk 2 rfl rfl | exact hp.agg_blk 3 rfl rfl | exact hp.old0 (by assumption) | exact hp.cell 4 rfl rfl | exact hp.cell 5 rfl rfl | exact hp.cell 6 rfl rfl | exact hp.cell 7 rfl rfl | exact hp.agg_blk 4 rfl rfl | exact hp.agg_blk 5 rfl rfl | exact hp.agg_blk 6 rfl rfl | exact hp.agg_blk 7 rfl rfl))); (intros; (first | exact fI rfl | exact fB rfl | exact fP rfl | exact fS rfl | exact fT rfl | exact fF0 rfl | exact fF1 rfl | exact fF2 rfl | exact fF3 rfl | exact fF rfl | exact fA2 rfl | exact fA3 rfl | exact fA6 rfl | exact fA13 rfl | exact fM rfl | exact fU rfl | exact ev_sel rfl (by assumption) | exact fL rfl | exact rfl)))))
  refine WP_loopS [0, 3, 4, 5, 6, 7, 8, 9, 10, 11, 12, 13, 14, 15, 16, 17, 18, 19] (fun (m : Nat) F => F.put 0 (.slice s m c)) (fun m w' => m ≤ l.length ∧ trimL l = trimL (l.take m) ∧ Hp w [] w' []) (fun m => m) l.length (put_self (Same.eq .refl) rfl) ⟨Nat.le_refl _, by rw [List.take_length], hp⟩ ?_
  clear hp
  rintro u m w1 ⟨hml, ht, hp⟩
  (repeat (first | (with_reducible first | apply WP_seq | apply WP_block | apply WP_region | apply wpl_nil | apply thenQ_n | apply inBlk_n | apply thenQ_ret | apply inBlk_ret | apply thenQ_exit | apply WP_ret | apply WP_exit | apply WP_skip | apply WP_label | apply WP_scope | apply ngQ_n | apply ngQ_ret) | ((with_reducible apply inBlk_same); exact rfl) | ((with_reducible apply inBlk_other); exact rfl)))
  ((first | apply wlp | (apply wlg; exact rfl; exact rfl) | (apply wlg2; exact rfl; exact rfl)); (intros; ((first | apply pv_move | apply pv_assign | apply pf_field | (apply pf_load; exact rfl) | (apply pf_loadb; exact rfl) | (apply pf_len; exact rfl) | (apply pf_lens; exact rfl) | exact pv_andF rfl | exact pv_orT rfl | exact pv_andT rfl rfl | exact pv_orF rfl rfl | exact pv_and rfl rfl rfl | exact pv_or rfl rfl rfl | apply pv_lss | apply pv_leq | apply pv_gtr | apply pv_geq | (apply pv_eql; (first | exact rfl | exact ev_sel rfl (by assumption))) | (apply pv_neq; (first | exact rfl | exact ev_sel rfl (by assumption))) | apply pv_min | apply pv_not | apply pv_extract | apply pv_func | apply pv_nil | (apply pf_index; exact rfl) | apply pf_index_s | exact pn_64of32 rfl rfl rfl (by assumption) | exact pn_32of rfl rfl rfl | exact pn_8of rfl rfl rfl | apply pf_conv | (apply pf_build; exact rfl) | exact pv_and2 (ev_sel rfl (by assumption)) rfl (by assumption) rfl | exact pv_or2 (ev_sel rfl (by assumption)) rfl (by assumption) rfl | exact pv_and' rfl rfl | exact pv_or' rfl rfl | (apply pv_seql; (first | exact rfl | exact ev_sel rfl (by assumption))) | (apply pv_sneq; (first | exact rfl | exact ev_sel rfl (by assumption))) | apply pf_build_a | (apply pf_index_a; exact rfl)) <;> (first | exact rfl | exact ev_sel rfl (by assumption) | assumption | exact hp.cell 0 rfl rfl | exact hp.cell 1 rfl rfl | exact hp.cell 2 rfl rfl | exact hp.cell 3 rfl rfl | exact hp.agg_blk 0 rfl rfl | exact hp.agg_blk 1 rfl rfl | exact hp.agg_blk 2 rfl rfl | exact hp.agg_blk 3 rfl rfl | exact hp.old0 (by assumption) | exact hp.cell 4 rfl rfl | exact hp.cell 5 rfl rfl | exact hp.cell 6 rfl rfl | exact hp.cell 7 rfl rfl | exact hp.agg_blk 4 rfl rfl | exact hp.agg_blk 5 rfl rfl | exact hp.agg_blk 6 rfl rfl | exact hp.agg_blk 7 rfl rfl))); (intros; (first | exact fI rfl | exact fB rfl | exact fP rfl | exact fS rfl | exact fT rfl | exact fF0 rfl | exact fF1 rfl | exact fF2 rfl | exact fF3 rfl | exact fF rfl | exact fA2 rfl | exact fA3 rfl | exact fA6 rfl | exact fA13 rfl | exact fM rfl | exact fU rfl | exact ev_sel rfl (by assumption) | exact fL rfl | exact rfl)))
  ((first | apply wlp | (apply wlg; exact rfl; exact rfl) | (apply wlg2; exact rfl; exact rfl)); (intros; ((first | apply pv_move | apply pv_assign | apply pf_field | (apply pf_load; exact rfl) | (apply pf_loadb; exact rfl) | (apply pf_len; exact rfl) | (apply pf_lens; exact rfl) | exact pv_andF rfl | exact pv_orT rfl | exact pv_andT rfl rfl | exact pv_orF rfl rfl | exact pv_and rfl rfl rfl | exact pv_or rfl rfl rfl | apply pv_lss | apply pv_leq | apply pv_gtr | apply pv_geq | (apply pv_eql; (first | exact rfl | exact ev_sel rfl (by assumption))) | (apply pv_neq; (first | exact rfl | exact ev_sel rfl (by assumption))) | apply pv_min | apply pv_not | apply pv_extract | apply pv_func | apply pv_nil | (apply pf_index; exact rfl) | apply pf_index_s | exact pn_64of32 rfl rfl rfl (by assumption) | exact pn_32of rfl rfl rfl | exact pn_8of rfl rfl rfl | apply pf_conv | (apply pf_build; exact rfl) | exact pv_and2 (ev_sel rfl (by assumption)) rfl (by assumption) rfl | exact pv_or2 (ev_sel rfl (by assumption)) rfl (by assumption) rfl | exact pv_and' rfl rfl | exact pv_or' rfl rfl | (apply pv_seql; (first | exact rfl | exact ev_sel rfl (by assumption))) | (apply pv_sneq; (first | exact rfl | exact ev_sel rfl (by assumption))) | apply pf_build_a | (apply pf_index_a; exact rfl)) <;> (first | exact rfl | exact ev_sel rfl (by assumption) | assumption | exact hp.cell 0 rfl rfl | exact hp.cell 1 rfl rfl | exact hp.cell 2 rfl rfl | exact hp.cell 3 rfl rfl | exact hp.agg_blk 0 rfl rfl | exact hp.agg_blk 1 rfl rfl | exact hp.agg_blk 2 rfl rfl | exact hp.agg_blk 3 rfl rfl | exact hp.old0 (by assumption) | exact hp.cell 4 rfl rfl | exact hp.cell 5 rfl rfl | exact hp.cell 6 rfl rfl | exact hp.cell 7 rfl rfl | exact hp.agg_blk 4 rfl rfl | exact hp.agg_blk 5 rfl rfl | exact hp.agg_blk 6 rfl rfl | exact hp.agg_blk 7 rfl rfl))); (intros; (first | exact fI rfl | exact fB rfl | exact fP rfl | exact fS rfl | exact fT rfl | exact fF0 rfl | exact fF1 rfl | exact fF2 rfl | exact fF3 rfl | exact fF rfl | exact fA2 rfl | exact fA3 rfl | exact fA6 rfl | exact fA13 rfl | exact fM rfl | exact fU rfl | exact ev_sel rfl (by assumption) | exact fL rfl | exact rfl)))
  by_cases h0 : 0 < m
  · obtain ⟨k, rfl⟩ : ∃ k, m = k + 1 := ⟨m - 1, by omega⟩
    have hlt : k < l.length := by omega
    have hk1 : k < k + 1 := by omega
    have htk := List.take_succ_eq_append_getElem hlt
    obtain ⟨b0, o0, hs0, hc0⟩ := hs.base (by omega)
    have hci := hc0 k _ (List.getElem?_eq_getElem hlt) 0 _ rfl
    generalize l[k] = y at hci htk
    have hci : w.cell? ⟨b0, o0 + k * 1, none⟩ = some (.int .i64 (y : Int)) := hci
    (apply wlp; (exact pv_gtr rfl rfl); exact bool_eq (b := true) (decide_eq_true (by omega)))
    (repeat (first | (with_reducible first | apply WP_seq | apply WP_block | apply WP_region | apply wpl_nil | apply thenQ_n | apply inBlk_n | apply thenQ_ret | apply inBlk_ret | apply thenQ_exit | apply WP_ret | apply WP_exit | apply WP_skip | apply WP_label | apply WP_scope | apply ngQ_n | apply ngQ_ret) | ((with_reducible apply inBlk_same); exact rfl) | ((with_reducible apply inBlk_other); exact rfl) | (apply wlp; (intros; ((first | apply pv_move | apply pv_assign | apply pf_field | (apply pf_load; exact rfl) | (apply pf_loadb; exact rfl) | (apply pf_len; exact rfl) | (apply pf_lens; exact rfl) | exact pv_andF rfl | exact pv_orT rfl | exact pv_andT rfl rfl | exact pv_orF rfl rfl | exact pv_and rfl rfl rfl | exact pv_or rfl rfl rfl | apply pv_lss | apply pv_leq | apply pv_gtr | apply pv_geq | (apply pv_eql; (first | exact rfl | exact ev_sel rfl (by assumption))) | (apply pv_neq; (first | exact rfl | exact ev_sel rfl (by assumption))) | apply pv_min | apply pv_not | apply pv_extract | apply pv_func | apply pv_nil | (apply pf_index; exact rfl) | apply pf_index_s | exact pn_64of32 rfl rfl rfl (by assumption) | exact pn_32of rfl rfl rfl | exact pn_8of rfl rfl rfl | apply pf_conv | (apply pf_build; exact rfl) | exact pv_and2 (ev_sel rfl (by assumption)) rfl (by assumption) rfl | exact pv_or2 (ev_sel rfl (by assumption)) rfl (by assumption) rfl | exact pv_and' rfl rfl | exact pv_or' rfl rfl | (apply pv_seql; (first | exact rfl | exact ev_sel rfl (by assumption))) | (apply pv_sneq; (first | exact rfl | exact ev_sel rfl (by assumption))) | apply pf_build_a | (apply pf_index_a; exact rfl)) <;> (first | exact rfl | exact ev_sel rfl (by assumption) | assumption | exact hp.cell 0 rfl rfl | exact hp.cell 1 rfl rfl | exact hp.cell 2 rfl rfl | exact hp.cell 3 rfl rfl | exact hp.agg_blk 0 rfl rfl | exact hp.agg_blk 1 rfl rfl | exact hp.agg_blk 2 rfl rfl | exact hp.agg_blk 3 rfl rfl | exact hp.old0 (by assumption) | exact hp.cell 4 rfl rfl | exact hp.cell 5 rfl rfl | exact hp.cell 6 rfl rfl | exact hp.cell 7 rfl rfl | exact hp.agg_blk 4 rfl rfl | exact hp.agg_blk 5 rfl rfl | exact hp.agg_blk 6 rfl rfl | exact hp.agg_blk 7 rfl rfl))); (intros; (first | exact fI rfl | exact fB rfl | exact fP rfl | exact fS rfl | exact fT rfl | exact fF0 rfl | exact fF1 rfl | exact fF2 rfl | exact fF3 rfl | exact fF rfl | exact fA2 rfl | exact fA3 rfl | exact fA6 rfl | exact fA13 rfl | exact fM rfl | exact fU rfl | exact ev_sel rfl (by assumption) | exact fL rfl | exact rfl))) | ((apply wlpT; exact rfl; exact rfl); (((first | apply pv_move | apply pv_assign | apply pf_field | (apply pf_load; exact rfl) | (apply pf_loadb; exact rfl) | (apply pf_len; exact rfl) | (apply pf_lens; exact rfl) | exact pv_andF rfl | exact pv_orT rfl | exact pv_andT rfl rfl | exact pv_orF rfl rfl | exact pv_and rfl rfl rfl | exact pv_or rfl rfl rfl | apply pv_lss | apply pv_leq | apply pv_gtr | apply pv_geq | (apply pv_eql; (first | exact rfl | exact ev_sel rfl (by assumption))) | (apply pv_neq; (first | exact rfl | exact ev_sel rfl (by assumption))) | apply pv_min | apply pv_not | apply pv_extract | apply pv_func | apply pv_nil | (apply pf_index; exact rfl) | apply pf_index_s | exact pn_64of32 rfl rfl rfl (by assumption) | exact pn_32of rfl rfl rfl | exact pn_8of rfl rfl rfl | apply pf_conv | (apply pf_build; exact rfl) | exact pv_and2 (ev_sel rfl (by assumption)) rfl (by assumption) rfl | exact pv_or2 (ev_sel rfl (by assumption)) rfl (by assumption) rfl | exact pv_and' rfl rfl | exact pv_or' rfl rfl | (apply pv_seql; (first | exact rfl | exact ev_sel rfl (by assumption))) | (apply pv_sneq; (first | exact rfl | exact ev_sel rfl (by assumption))) | apply pf_build_a | (apply pf_index_a; exact rfl)) <;> (first | exact rfl | exact ev_sel rfl (by assumption) | assumption | exact hp.cell 0 rfl rfl | exact hp.cell 1 rfl rfl | exact hp.cell 2 rfl rfl | exact hp.cell 3 rfl rfl | exact hp.agg_blk 0 rfl rfl | exact hp.agg_blk 1 rfl rfl | exact hp.agg_blk 2 rfl rfl | exact hp.agg_blk 3 rfl rfl | exact hp.old0 (by assumption) | exact hp.cell 4 rfl rfl | exact hp.cell 5 rfl rfl | exact hp.cell 6 rfl rfl | exact hp.cell 7 rfl rfl | exact hp.agg_blk 4 rfl rfl | exact hp.agg_blk 5 rfl rfl | exact hp.agg_blk 6 rfl rfl | exact hp.agg_blk 7 rfl rfl))); (intros; (first | exact fI rfl | exact fB rfl | exact fP rfl | exact fS rfl | exact fT rfl | exact fF0 rfl | exact fF1 rfl | exact fF2 rfl | exact fF3 rfl | exact fF rfl | exact fA2 rfl | exact fA3 rfl | exact fA6 rfl | exact fA13 rfl | exact fM rfl | exact fU rfl | exact ev_sel rfl (by assumption) | exact fL rfl | exact rfl))) | (apply wlpF; exact rfl; exact rfl; exact rfl) | (apply wlpU; exact rfl; exact rfl)))
    (apply wlpT; exact rfl; exact rfl; (exact pv_sub rfl rfl); exact int_eq (b := ((k : Nat) : Int)) (by rw [i64_in (by omega) (by omega)]; omega))
    (repeat (first | (with_reducible first | apply WP_seq | apply WP_block | apply WP_region | apply wpl_nil | apply thenQ_n | apply inBlk_n | apply thenQ_ret | apply inBlk_ret | apply thenQ_exit | apply WP_ret | apply WP_exit | apply WP_skip | apply WP_label | apply WP_scope | apply ngQ_n | apply ngQ_ret) | ((with_reducible apply inBlk_same); exact rfl) | ((with_reducible apply inBlk_other); exact rfl) | (apply wlp; (intros; ((first | apply pv_move | apply pv_assign | apply pf_field | (apply pf_load; exact rfl) | (apply pf_loadb; exact rfl) | (apply pf_len; exact rfl) | (apply pf_lens; exact rfl) | exact pv_andF rfl | exact pv_orT rfl | exact pv_andT rfl rfl | exact pv_orF rfl rfl | exact pv_and rfl rfl rfl | exact pv_or rfl rfl rfl | apply pv_lss | apply pv_leq | apply pv_gtr | apply pv_geq | (apply pv_eql; (first | exact rfl | exact ev_sel rfl (by assumption))) | (apply pv_neq; (first | exact rfl | exact ev_sel rfl (by assumption))) | apply pv_min | apply pv_not | apply pv_extract | apply pv_func | apply pv_nil | (apply pf_index; exact rfl) | apply pf_index_s | exact pn_64of32 rfl rfl rfl (by assumption) | exact pn_32of rfl rfl rfl | exact pn_8of rfl rfl rfl | apply pf_conv | (apply pf_build; exact rfl) | exact pv_and2 (ev_sel rfl (by assumption)) rfl (by assumption) rfl | exact pv_or2 (ev_sel rfl (by assumption)) rfl (by assumption) rfl | exact pv_and' rfl rfl | exact pv_or' rfl rfl | (apply pv_seql; (first | exact rfl | exact ev_sel rfl (by assumption))) | (apply pv_sneq; (first | exact rfl | exact ev_sel rfl (by assumption))) | apply pf_build_a | (apply pf_index_a; exact rfl)) <;> (first | exact rfl | exact ev_sel rfl (by assumption) | assumption | exact hp.cell 0 rfl rfl | exact hp.cell 1 rfl rfl | exact hp.cell 2 rfl rfl | exact hp.cell 3 rfl rfl | exact hp.agg_blk 0 rfl rfl | exact hp.agg_blk 1 rfl rfl | exact hp.agg_blk 2 rfl rfl | exact hp.agg_blk 3 rfl rfl | exact hp.old0 (by assumption) | exact hp.cell 4 rfl rfl | exact hp.cell 5 rfl rfl | exact hp.cell 6 rfl rfl | exact hp.cell 7 rfl rfl | exact hp.agg_blk 4 rfl rfl | exact hp.agg_blk 5 rfl rfl | exact hp.agg_blk 6 rfl rfl | exact hp.agg_blk 7 rfl rfl))); (intros; (first | exact fI rfl | exact fB rfl | exact fP rfl | exact fS rfl | exact fT rfl | exact fF0 rfl | exact fF1 rfl | exact fF2 rfl | exact fF3 rfl | exact fF rfl | exact fA2 rfl | exact fA3 rfl | exact fA6 rfl | exact fA13 rfl | exact fM rfl | exact fU rfl | exact ev_sel rfl (by assumption) | exact fL rfl | exact rfl))) | ((apply wlpT; exact rfl; exact rfl); (((first | apply pv_move | apply pv_assign | apply pf_field | (apply pf_load; exact rfl) | (apply pf_loadb; exact rfl) | (apply pf_len; exact rfl) | (apply pf_lens; exact rfl) | exact pv_andF rfl | exact pv_orT rfl | exact pv_andT rfl rfl | exact pv_orF rfl rfl | exact pv_and rfl rfl rfl | exact pv_or rfl rfl rfl | apply pv_lss | apply pv_leq | apply pv_gtr | apply pv_geq | (apply pv_eql; (first | exact rfl | exact ev_sel rfl (by assumption))) | (apply pv_neq; (first | exact rfl | exact ev_sel rfl (by assumption))) | apply pv_min | apply pv_not | apply pv_extract | apply pv_func | apply pv_nil | (apply pf_index; exact rfl) | apply pf_index_s | exact pn_64of32 rfl rfl rfl (by assumption) | exact pn_32of rfl rfl rfl | exact pn_8of rfl rfl rfl | apply pf_conv | (apply pf_build; exact rfl) | exact pv_and2 (ev_sel rfl (by assumption)) rfl (by assumption) rfl | exact pv_or2 (ev_sel rfl (by assumption)) rfl (by assumption) rfl | exact pv_and' rfl rfl | exact pv_or' rfl rfl | (apply pv_seql; (first | exact rfl | exact ev_sel rfl (by assumption))) | (apply pv_sneq; (first | exact rfl | exact ev_sel rfl (by assumption))) | apply pf_build_a | (apply pf_index_a; exact rfl)) <;> (first | exact rfl | exact ev_sel rfl (by assumption) | assumption | exact hp.cell 0 rfl rfl | exact hp.cell 1 rfl rfl | exact hp.cell 2 rfl rfl | exact hp.cell 3 rfl rfl | exact hp.agg_blk 0 rfl rfl | exact hp.agg_blk 1 rfl rfl | exact hp.agg_blk 2 rfl rfl | exact hp.agg_blk 3 rfl rfl | exact hp.old0 (by assumption) | exact hp.cell 4 rfl rfl | exact hp.cell 5 rfl rfl | exact hp.cell 6 rfl rfl | exact hp.cell 7 rfl rfl | exact hp.agg_blk 4 rfl rfl | exact hp.agg_blk 5 rfl rfl | exact hp.agg_blk 6 rfl rfl | exact hp.agg_blk 7 rfl rfl))); (intros; (first | exact fI rfl | exact fB rfl | exact fP rfl | exact fS rfl | exact fT rfl | exact fF0 rfl | exact fF1 rfl | exact fF2 rfl | exact fF3 rfl | exact fF rfl | exact fA2 rfl | exact fA3 rfl | exact fA6 rfl | exact fA13 rfl | exact fM rfl | exact fU rfl | exact ev_sel rfl (by assumption) | exact fL rfl | exact rfl))) | (apply wlpF; exact rfl; exact rfl; exact rfl) | (apply wlpU; exact rfl; exact rfl)))
    refine WP_cond_d rfl (fun h => ?_) (fun h => ?_)
    · have hy : y = 0 := by omega
      subst hy
      (repeat (first | (with_reducible first | apply WP_seq | apply WP_block | apply WP_region | apply wpl_nil | apply thenQ_n | apply inBlk_n | apply thenQ_ret | apply inBlk_ret | apply thenQ_exit | apply WP_ret | apply WP_exit | apply WP_skip | apply WP_label | apply WP_scope | apply ngQ_n | apply ngQ_ret) | ((with_reducible apply inBlk_same); exact rfl) | ((with_reducible apply inBlk_other); exact rfl) | ((first | apply wlp | (apply wlg; exact rfl; exact rfl) | (apply wlg2; exact rfl; exact rfl)); (intros; ((first | apply pv_move | apply pv_assign | apply pf_field | (apply pf_load; exact rfl) | (apply pf_loadb; exact rfl) | (apply pf_len; exact rfl) | (apply pf_lens; exact rfl) | exact pv_andF rfl | exact pv_orT rfl | exact pv_andT rfl rfl | exact pv_orF rfl rfl | exact pv_and rfl rfl rfl | exact pv_or rfl rfl rfl | apply pv_lss | apply pv_leq | apply pv_gtr | apply pv_geq | (apply pv_eql; (first | exact rfl | exact ev_sel rfl (by assumption))) | (apply pv_neq; (first | exact rfl | exact ev_sel rfl (by assumption))) | apply pv_min | apply pv_not | apply pv_extract | apply pv_func | apply pv_nil | (apply pf_index; exact rfl) | apply pf_index_s | exact pn_64of32 rfl rfl rfl (by assumption) | exact pn_32of rfl rfl rfl | exact pn_8of rfl rfl rfl | apply pf_conv | (apply pf_build; exact rfl) | exact pv_and2 (ev_sel rfl (by assumption)) rfl (by assumption) rfl | exact pv_or2 (ev_sel rfl (by assumption)) rfl (by assumption) rfl | exact pv_and' rfl rfl | exact pv_or' rfl rfl | (apply pv_seql; (first | exact rfl | exact ev_sel rfl (by assumption))) | (apply pv_sneq; (first | exact rfl | exact ev_sel rfl (by assumption))) | apply pf_build_a | (apply pf_index_a; exact rfl)) <;> (first | exact rfl | exact ev_sel rfl (by assumption) | assumption | exact hp.cell 0 rfl rfl | exact hp.cell 1 rfl rfl | exact hp.cell 2 rfl rfl | exact hp.cell 3 rfl rfl | exact hp.agg_blk 0 rfl rfl | exact hp.agg_blk 1 rfl rfl | exact hp.agg_blk 2 rfl rfl | exact hp.agg_blk 3 rfl rfl | exact hp.old0 (by assumption) | exact hp.cell 4 rfl rfl | exact hp.cell 5 rfl rfl | exact hp.cell 6 rfl rfl | exact hp.cell 7 rfl rfl | exact hp.agg_blk 4 rfl rfl | exact hp.agg_blk 5 rfl rfl | exact hp.agg_blk 6 rfl rfl | exact hp.agg_blk 7 rfl rfl))); (intros; (first | exact fI rfl | exact fB rfl | exact fP rfl | exact fS rfl | exact fT rfl | exact fF0 rfl | exact fF1 rfl | exact fF2 rfl | exact fF3 rfl | exact fF rfl | exact fA2 rfl | exact fA3 rfl | exact fA6 rfl | exact fA13 rfl | exact fM rfl | exact fU rfl | exact ev_sel rfl (by assumption) | exact fL rfl | exact rfl)))))
      (apply wlp; (exact pv_sub rfl rfl); exact int_eq (b := ((k : Nat) : Int)) (by rw [i64_in (by omega) (by omega)]; omega))
      (apply wlp; exact pv_sliceTo rfl rfl rfl (by omega); exact fS rfl)
      (repeat (first | (with_reducible first | apply WP_seq | apply WP_block | apply WP_region | apply wpl_nil | apply thenQ_n | apply inBlk_n | apply thenQ_ret | apply inBlk_ret | apply thenQ_exit | apply WP_ret | apply WP_exit | apply WP_skip | apply WP_label | apply WP_scope | apply ngQ_n | apply ngQ_ret) | ((with_reducible apply inBlk_same); exact rfl) | ((with_reducible apply inBlk_other); exact rfl) | ((first | apply wlp | (apply wlg; exact rfl; exact rfl) | (apply wlg2; exact rfl; exact rfl)); (intros; ((first | apply pv_move | apply pv_assign | apply pf_field | (apply pf_load; exact rfl) | (apply pf_loadb; exact rfl) | (apply pf_len; exact rfl) | (apply pf_lens; exact rfl) | exact pv_andF rfl | exact pv_orT rfl | exact pv_andT rfl rfl | exact pv_orF rfl rfl | exact pv_and rfl rfl rfl | exact pv_or rfl rfl rfl | apply pv_lss | apply pv_leq | apply pv_gtr | apply pv_geq | (apply pv_eql; (first | exact rfl | exact ev_sel rfl (by assumption))) | (apply pv_neq; (first | exact rfl | exact ev_sel rfl (by assumption))) | apply pv_min | apply pv_not | apply pv_extract | apply pv_func | apply pv_nil | (apply pf_index; exact rfl) | apply pf_index_s | exact pn_64of32 rfl rfl rfl (by assumption) | exact pn_32of rfl rfl rfl | exact pn_8of rfl rfl rfl | apply pf_conv | (apply pf_build; exact rfl) | exact pv_and2 (ev_sel rfl (by assumption)) rfl (by assumption) rfl | exact pv_or2 (ev_sel rfl (by assumption)) rfl (by assumption) rfl | exact pv_and' rfl rfl | exact pv_or' rfl rfl | (apply pv_seql; (first | exact rfl | exact ev_sel rfl (by assumption))) | (apply pv_sneq; (first | exact rfl | exact ev_sel rfl (by assumption))) | apply pf_build_a | (apply pf_index_a; exact rfl)) <;> (first | exact rfl | exact ev_sel rfl (by assumption) | assumption | exact hp.cell 0 rfl rfl | exact hp.cell 1 rfl rfl | exact hp.cell 2 rfl rfl | exact hp.cell 3 rfl rfl | exact hp.agg_blk 0 rfl rfl | exact hp.agg_blk 1 rfl rfl | exact hp.agg_blk 2 rfl rfl | exact hp.agg_blk 3 rfl rfl | exact hp.old0 (by assumption) | exact hp.cell 4 rfl rfl | exact hp.cell 5 rfl rfl | exact hp.cell 6 rfl rfl | exact hp.cell 7 rfl rfl | exact hp.agg_blk 4 rfl rfl | exact hp.agg_blk 5 rfl rfl | exact hp.agg_blk 6 rfl rfl | exact hp.agg_blk 7 rfl rfl))); (intros; (first | exact fI rfl | exact fB rfl | exact fP rfl | exact fS rfl | exact fT rfl | exact fF0 rfl | exact fF1 rfl | exact fF2 rfl | exact fF3 rfl | exact fF rfl | exact fA2 rfl | exact fA3 rfl | exact fA6 rfl | exact fA13 rfl | exact fM rfl | exact fU rfl | exact ev_sel rfl (by assumption) | exact fL rfl | exact rfl)))))
      refine ⟨k, put_self (Same.eq (by repeat (first | exact Same.hav | exact Same.refl | refine Same.put rfl ?_ | refine Same.havs rfl ?_))) rfl, ⟨by omega, ?_, hp⟩, by omega⟩
      rw [ht, htk, trimL_snoc0]
    · have hy : y ≠ 0 := by omega
      (repeat (first | (with_reducible first | apply WP_seq | apply WP_block | apply WP_region | apply wpl_nil | apply thenQ_n | apply inBlk_n | apply thenQ_ret | apply inBlk_ret | apply thenQ_exit | apply WP_ret | apply WP_exit | apply WP_skip | apply WP_label | apply WP_scope | apply ngQ_n | apply ngQ_ret) | ((with_reducible apply inBlk_same); exact rfl) | ((with_reducible apply inBlk_other); exact rfl) | ((first | apply wlp | (apply wlg; exact rfl; exact rfl) | (apply wlg2; exact rfl; exact rfl)); (intros; ((first | apply pv_move | apply pv_assign | apply pf_field | (apply pf_load; exact rfl) | (apply pf_loadb; exact rfl) | (apply pf_len; exact rfl) | (apply pf_lens; exact rfl) | exact pv_andF rfl | exact pv_orT rfl | exact pv_andT rfl rfl | exact pv_orF rfl rfl | exact pv_and rfl rfl rfl | exact pv_or rfl rfl rfl | apply pv_lss | apply pv_leq | apply pv_gtr | apply pv_geq | (apply pv_eql; (first | exact rfl | exact ev_sel rfl (by assumption))) | (apply pv_neq; (first | exact rfl | exact ev_sel rfl (by assumption))) | apply pv_min | apply pv_not | apply pv_extract | apply pv_func | apply pv_nil | (apply pf_index; exact rfl) | apply pf_index_s | exact pn_64of32 rfl rfl rfl (by assumption) | exact pn_32of rfl rfl rfl | exact pn_8of rfl rfl rfl | apply pf_conv | (apply pf_build; exact rfl) | exact pv_and2 (ev_sel rfl (by assumption)) rfl (by assumption) rfl | exact pv_or2 (ev_sel rfl (by assumption)) rfl (by assumption) rfl | exact pv_and' rfl rfl | exact pv_or' rfl rfl | (apply pv_seql; (first | exact rfl | exact ev_sel rfl (by assumption))) | (apply pv_sneq; (first | exact rfl | exact ev_sel rfl (by assumption))) | apply pf_build_a | (apply pf_index_a; exact rfl)) <;> (first | exact rfl | exact ev_sel rfl (by assumption) | assumption | exact hp.cell 0 rfl rfl | exact hp.cell 1 rfl rfl | exact hp.cell 2 rfl rfl | exact hp.cell 3 rfl rfl | exact hp.agg_blk 0 rfl rfl | exact hp.agg_blk 1 rfl rfl | exact hp.agg_blk 2 rfl rfl | exact hp.agg_blk 3 rfl rfl | exact hp.old0 (by assumption) | exact hp.cell 4 rfl rfl | exact hp.cell 5 rfl rfl | exact hp.cell 6 rfl rfl | exact hp.cell 7 rfl rfl | exact hp.agg_blk 4 rfl rfl | exact hp.agg_blk 5 rfl rfl | exact hp.agg_blk 6 rfl rfl | exact hp.agg_blk 7 rfl rfl))); (intros; (first | exact fI rfl | exact fB rfl | exact fP rfl | exact fS rfl | exact fT rfl | exact fF0 rfl | exact fF1 rfl | exact fF2 rfl | exact fF3 rfl | exact fF rfl | exact fA2 rfl | exact fA3 rfl | exact fA6 rfl | exact fA13 rfl | exact fM rfl | exact fU rfl | exact ev_sel rfl (by assumption) | exact fL rfl | exact rfl)))))
      refine ret_tmp rfl rfl ⟨_, rfl, sl_eq ?_, hp.keeps⟩
      rw [ht, htk, trimL_snoc hy]
      simp
      omega
  · obtain rfl : m = 0 := by omega
    (apply wlp; (exact pv_gtr rfl rfl); exact bool_eq (b := false) (decide_eq_false (by omega)))
    (repeat (first | (with_reducible first | apply WP_seq | apply WP_block | apply WP_region | apply wpl_nil | apply thenQ_n | apply inBlk_n | apply thenQ_ret | apply inBlk_ret | apply thenQ_exit | apply WP_ret | apply WP_exit | apply WP_skip | apply WP_label | apply WP_scope | apply ngQ_n | apply ngQ_ret) | ((with_reducible apply inBlk_same); exact rfl) | ((with_reducible apply inBlk_other); exact rfl) | (apply wlp; (intros; ((first | apply pv_move | apply pv_assign | apply pf_field | (apply pf_load; exact rfl) | (apply pf_loadb; exact rfl) | (apply pf_len; exact rfl) | (apply pf_lens; exact rfl) | exact pv_andF rfl | exact pv_orT rfl | exact pv_andT rfl rfl | exact pv_orF rfl rfl | exact pv_and rfl rfl rfl | exact pv_or rfl rfl rfl | apply pv_lss | apply pv_leq | apply pv_gtr | apply pv_geq | (apply pv_eql; (first | exact rfl | exact ev_sel rfl (by assumption))) | (apply pv_neq; (first | exact rfl | exact ev_sel rfl (by assumption))) | apply pv_min | apply pv_not | apply pv_extract | apply pv_func | apply pv_nil | (apply pf_index; exact rfl) | apply pf_index_s | exact pn_64of32 rfl rfl rfl (by assumption) | exact pn_32of rfl rfl rfl | exact pn_8of rfl rfl rfl | apply pf_conv | (apply pf_build; exact rfl) | exact pv_and2 (ev_sel rfl (by assumption)) rfl (by assumption) rfl | exact pv_or2 (ev_sel rfl (by assumption)) rfl (by assumption) rfl | exact pv_and' rfl rfl | exact pv_or' rfl rfl | (apply pv_seql; (first | exact rfl | exact ev_sel rfl (by assumption))) | (apply pv_sneq; (first | exact rfl | exact ev_sel rfl (by assumption))) | apply pf_build_a | (apply pf_index_a; exact rfl)) <;> (first | exact rfl | exact ev_sel rfl (by assumption) | assumption | exact hp.cell 0 rfl rfl | exact hp.cell 1 rfl rfl | exact hp.cell 2 rfl rfl | exact hp.cell 3 rfl rfl | exact hp.agg_blk 0 rfl rfl | exact hp.agg_blk 1 rfl rfl | exact hp.agg_blk 2 rfl rfl | exact hp.agg_blk 3 rfl rfl | exact hp.old0 (by assumption) | exact hp.cell 4 rfl rfl | exact hp.cell 5 rfl rfl | exact hp.cell 6 rfl rfl | exact hp.cell 7 rfl rfl | exact hp.agg_blk 4 rfl rfl | exact hp.agg_blk 5 rfl rfl | exact hp.agg_blk 6 rfl rfl | exact hp.agg_blk 7 rfl rfl))); (intros; (first | exact fI rfl | exact fB rfl | exact fP rfl | exact fS rfl | exact fT rfl | exact fF0 rfl | exact fF1 rfl | exact fF2 rfl | exact fF3 rfl | exact fF rfl | exact fA2 rfl | exact fA3 rfl | exact fA6 rfl | exact fA13 rfl | exact fM rfl | exact fU rfl | exact ev_sel rfl (by assumption) | exact fL rfl | exact rfl))) | ((apply wlpT; exact rfl; exact rfl); (((first | apply pv_move | apply pv_assign | apply pf_field | (apply pf_load; exact rfl) | (apply pf_loadb; exact rfl) | (apply pf_len; exact rfl) | (apply pf_lens; exact rfl) | exact pv_andF rfl | exact pv_orT rfl | exact pv_andT rfl rfl | exact pv_orF rfl rfl | exact pv_and rfl rfl rfl | exact pv_or rfl rfl rfl | apply pv_lss | apply pv_leq | apply pv_gtr | apply pv_geq | (apply pv_eql; (first | exact rfl | exact ev_sel rfl (by assumption))) | (apply pv_neq; (first | exact rfl | exact ev_sel rfl (by assumption))) | apply pv_min | apply pv_not | apply pv_extract | apply pv_func | apply pv_nil | (apply pf_index; exact rfl) | apply pf_index_s | exact pn_64of32 rfl rfl rfl (by assumption) | exact pn_32of rfl rfl rfl | exact pn_8of rfl rfl rfl | apply pf_conv | (apply pf_build; exact rfl) | exact pv_and2 (ev_sel rfl (by assumption)) rfl (by assumption) rfl | exact pv_or2 (ev_sel rfl (by assumption)) rfl (by assumption) rfl | exact pv_and' rfl rfl | exact pv_or' rfl rfl | (apply pv_seql; (first | exact rfl | exact ev_sel rfl (by assumption))) | (apply pv_sneq; (first | exact rfl | exact ev_sel rfl (by assumption))) | apply pf_build_a | (apply pf_index_a; exact rfl)) <;> (first | exact rfl | exact ev_sel rfl (by assumption) | assumption | exact hp.cell 0 rfl rfl | exact hp.cell 1 rfl rfl | exact hp.cell 2 rfl rfl | exact hp.cell 3 rfl rfl | exact hp.agg_blk 0 rfl rfl | exact hp.agg_blk 1 rfl rfl | exact hp.agg_blk 2 rfl rfl | exact hp.agg_blk 3 rfl rfl | exact hp.old0 (by assumption) | exact hp.cell 4 rfl rfl | exact hp.cell 5 rfl rfl | exact hp.cell 6 rfl rfl | exact hp.cell 7 rfl rfl | exact hp.agg_blk 4 rfl rfl | exact hp.agg_blk 5 rfl rfl | exact hp.agg_blk 6 rfl rfl | exact hp.agg_blk 7 rfl rfl))); (intros; (first | exact fI rfl | exact fB rfl | exact fP rfl | exact fS rfl | exact fT rfl | exact fF0 rfl | exact fF1 rfl | exact fF2 rfl | exact fF3 rfl | exact fF rfl | exact fA2 rfl | exact fA3 rfl | exact fA6 rfl | exact fA13 rfl | exact fM rfl | exact fU rfl | exact ev_sel rfl (by assumption) | exact fL rfl | exact rfl))) | (apply wlpF; exact rfl; exact rfl; exact rfl) | (apply wlpU; exact rfl; exact rfl)))
    refine WP_cond_f rfl ?_
    (repeat (first | (with_reducible first | apply WP_seq | apply WP_block | apply WP_region | apply wpl_nil | apply thenQ_n | apply inBlk_n | apply thenQ_ret | apply inBlk_ret | apply thenQ_exit | apply WP_ret | apply WP_exit | apply WP_skip | apply WP_label | apply WP_scope | apply ngQ_n | apply ngQ_ret) | ((with_reducible apply inBlk_same); exact rfl) | ((with_reducible apply inBlk_other); exact rfl) | ((first | apply wlp | (apply wlg; exact rfl; exact rfl) | (apply wlg2; exact rfl; exact rfl)); (intros; ((first | apply pv_move | apply pv_assign | apply pf_field | (apply pf_load; exact rfl) | (apply pf_loadb; exact rfl) | (apply pf_len; exact rfl) | (apply pf_lens; exact rfl) | exact pv_andF rfl | exact pv_orT rfl | exact pv_andT rfl rfl | exact pv_orF rfl rfl | exact pv_and rfl rfl rfl | exact pv_or rfl rfl rfl | apply pv_lss | apply pv_leq | apply pv_gtr | apply pv_geq | (apply pv_eql; (first | exact rfl | exact ev_sel rfl (by assumption))) | (apply pv_neq; (first | exact rfl | exact ev_sel rfl (by assumption))) | apply pv_min | apply pv_not | apply pv_extract | apply pv_func | apply pv_nil | (apply pf_index; exact rfl) | apply pf_index_s | exact pn_64of32 rfl rfl rfl (by assumption) | exact pn_32of rfl rfl rfl | exact pn_8of rfl rfl rfl | apply pf_conv | (apply pf_build; exact rfl) | exact pv_and2 (ev_sel rfl (by assumption)) rfl (by assumption) rfl | exact pv_or2 (ev_sel rfl (by assumption)) rfl (by assumption) rfl | exact pv_and' rfl rfl | exact pv_or' rfl rfl | (apply pv_seql; (first | exact rfl | exact ev_sel rfl (by assumption))) | (apply pv_sneq; (first | exact rfl | exact ev_sel rfl (by assumption))) | apply pf_build_a | (apply pf_index_a; exact rfl)) <;> (first | exact rfl | exact ev_sel rfl (by assumption) | assumption | exact hp.cell 0 rfl rfl | exact hp.cell 1 rfl rfl | exact hp.cell 2 rfl rfl | exact hp.cell 3 rfl rfl | exact hp.agg_blk 0 rfl rfl | exact hp.agg_blk 1 rfl rfl | exact hp.agg_blk 2 rfl rfl | exact hp.agg_blk 3 rfl rfl | exact hp.old0 (by assumption) | exact hp.cell 4 rfl rfl | exact hp.cell 5 rfl rfl | exact hp.cell 6 rfl rfl | exact hp.cell 7 rfl rfl | exact hp.agg_blk 4 rfl rfl | exact hp.agg_blk 5 rfl rfl | exact hp.agg_blk 6 rfl rfl | exact hp.agg_blk 7 rfl rfl))); (intros; (first | exact fI rfl | exact fB rfl | exact fP rfl | exact fS rfl | exact fT rfl | exact fF0 rfl | exact fF1 rfl | exact fF2 rfl | exact fF3 rfl | exact fF rfl | exact fA2 rfl | exact fA3 rfl | exact fA6 rfl | exact fA13 rfl | exact fM rfl | exact fU rfl | exact ev_sel rfl (by assumption) | exact fL rfl | exact rfl)))))
    refine ret_tmp rfl rfl ⟨_, rfl, sl_eq ?_, hp.keeps⟩
    rw [ht]
    rfl
theorem WP_loop5 {P : Program} {n : Nat} {Q : Exit → Fr → World → Prop} {F : Fr} {w : World} {c : Code} {X Y Z T U : Type} (S : List Nat) (H : X → Y → Z → T → U → Fr → Fr) (I : X → Y → Z → T → U → World → Prop) (μ : X → Y → Z → T → U → Nat) (x0 : X) (y0 : Y) (z0 : Z) (t0 : T) (u0 : U) (h0 : F = H x0 y0 z0 t0 u0 (Fr.hav S F F)) (hi : I x0 y0 z0 t0 u0 w)
    (round : ∀ (v : Fr) (x : X) (y : Y) (z : Z) (t : T) (u : U) (w : World), I x y z t u w → WP P n c (thenQ (fun F' w' => ∃ x' y' z' t' u', F' = H x' y' z' t' u' (Fr.hav S F' F) ∧ I x' y' z' t' u' w' ∧ μ x' y' z' t' u' < μ x y z t u) Q) (H x y z t u (Fr.hav S v F)) w) : WP P n (.loop c) Q F w := by
  refine WP_loopS S (fun (x : X × Y × Z × T × U) => H x.1 x.2.1 x.2.2.1 x.2.2.2.1 x.2.2.2.2) (fun x => I x.1 x.2.1 x.2.2.1 x.2.2.2.1 x.2.2.2.2) (fun x => μ x.1 x.2.1 x.2.2.1 x.2.2.2.1 x.2.2.2.2) (x0, y0, z0, t0, u0) h0 hi ?_
  intro u x w hI
  refine WP_mono (round u x.1 x.2.1 x.2.2.1 x.2.2.2.1 x.2.2.2.2 w hI) ?_
  intro e F w h
  cases e with
  | normal =>
    obtain ⟨x', y', z', t', u', h1, h2, h3⟩ := h
    exact ⟨(x', y', z', t', u'), h1, h2, h3⟩
  | _ => exact h
theorem c73o (x y : Nat) (s s2 : Option Addr) (c c2 : Nat) (w : World) (hx : SlAt w 1 eD s (d24 x)) (hy : SlAt w 1 eD s2 (d24 y)) (hlx : (d24 x).length ≤ 100000) (hly : (d24 y).length ≤ 100000) (hyx : y ≤ x) :
    Ret Tryd.prog 73 [.slice s (d24 x).length c, .slice s2 (d24 y).length c2] w (fun v w' => ∃ s' c' z, v = .slice s' (d24 (x - y)).length c' ∧ d24 (x - y) <+: z ∧ SVL s' c' z ∧ Hp w [] w' [ownL eD 3 1 s' c' z]) := by
  refine Ret.of_WP Tryd.func73 rfl Tryd.ntmps73 rfl ?_
  have hp := (Hp.start (M := []) (w := w)).nilL eD 3 1
  (repeat (first | (with_reducible first | apply WP_seq | apply WP_block | apply WP_region | apply wpl_nil | apply thenQ_n | apply inBlk_n | apply thenQ_ret | apply inBlk_ret | apply thenQ_exit | apply WP_ret | apply WP_exit | apply WP_skip | apply WP_label | apply WP_scope | apply ngQ_n | apply ngQ_ret) | ((with_reducible apply inBlk_same); exact rfl) | ((with_reducible apply inBlk_other); exact rfl) | ((first | apply wlp | (apply wlg; exact rfl; exact rfl) | (apply wlg2; exact rfl; exact rfl)); (intros; ((first | apply pv_move | apply pv_assign | apply pf_field | (apply pf_load; exact rfl) | (apply pf_loadb; exact rfl) | (apply pf_len; exact rfl) | (apply pf_lens; exact rfl) | exact pv_andF rfl | exact pv_orT rfl | exact pv_andT rfl rfl | exact pv_orF rfl rfl | exact pv_and rfl rfl rfl | exact pv_or rfl rfl rfl | apply pv_lss | apply pv_leq | apply pv_gtr | apply pv_geq | (apply pv_eql; (first | exact rfl | exact ev_sel rfl (by assumption))) | (apply pv_neq; (first | exact rfl | exact ev_sel rfl (by assumption))) | apply pv_min | apply pv_not | apply pv_extract | apply pv_func | apply pv_nil | (apply pf_index; exact rfl) | apply pf_index_s | exact pn_64of32 rfl rfl rfl (by assumption) | exact pn_32of rfl rfl rfl | exact pn_8of rfl rfl rfl | apply pf_conv | (apply pf_build; exact rfl) | exact pv_and2 (ev_sel rfl (by assumption)) rfl (by assumption) rfl | exact pv_or2 (ev_sel rfl (by assumption)) rfl (by assumption) rfl | exact pv_and' rfl rfl | exact pv_or' rfl rfl | (apply pv_seql; (first | exact rfl | exact ev_sel rfl (by assumption))) | (apply pv_sneq; (first | exact rfl | exact ev_sel rfl (by assumption))) | apply pf_build_a | (apply pf_index_a; exact rfl)) <;> (first | exact rfl | exact ev_sel rfl (by assumption) | assumption | exact hp.cell 0 rfl rfl | exact hp.cell 1 rfl rfl | exact hp.cell 2 rfl rfl | exact hp.cell 3 rfl rfl | exact hp.agg_blk 0 rfl rfl | exact hp.agg_blk 1 rfl rfl | exact hp.agg_blk 2 rfl rfl | exact hp.agg_blk 3 rfl rfl | exact hp.old0 (by assumption) | exact hp.cell 4 rfl rfl | exact hp.cell 5 rfl rfl | exact hp.cell 6 rfl rfl | exact hp.cell 7 rfl rfl | exact hp.agg_blk 4 rfl rfl | exact hp.agg_blk 5 rfl rfl | exact hp.agg_blk 6 rfl rfl | exact hp.agg_blk 7 rfl rfl))); (intros; (first | exact fI rfl | exact fB rfl | exact fP rfl | exact fS rfl | exact fT rfl | exact fF0 rfl | exact fF1 rfl | exact fF2 rfl | exact fF3 rfl | exact fF rfl | exact fA2 rfl | exact fA3 rfl | exact fA6 rfl | exact fA13 rfl | exact fM rfl | exact fU rfl | exact ev_sel rfl (by assumption) | exact fL rfl | exact rfl)))))
  refine WP_loop5 [5, 6, 7, 8, 9, 10, 11, 12, 13, 14, 15, 16, 17, 18, 19, 20, 21, 22, 23, 24, 25, 26, 27, 28, 29, 30, 31, 32, 33, 34, 35, 36, 37, 38] (fun (i bo : Nat) (z : List Nat) (st : Option Addr) (ct : Nat) F => ((F.put 7 (.int .i64 (i : Int))).put 6 (.int .i64 (bo : Int))).put 5 (.slice st z.length ct))
    (fun i bo z st ct w' => i ≤ (d24 x).length ∧ z.length = i ∧ Bd 16777216 z ∧ bo < 2 ∧ val 16777216 z + y % 16777216 ^ i = x % 16777216 ^ i + bo * 16777216 ^ i ∧ SVL st ct z ∧ Hp w [] w' [ownL eD 3 1 st ct z])
    (fun i _ _ _ _ => (d24 x).length - i) 0 0 [] none 0 (put_self (put_self (put_self (Same.eq .refl) rfl) rfl) rfl) ⟨Nat.zero_le _, rfl, .nil, by decide, by simp [val, Nat.mod_one], SVL.nil, hp⟩ ?_
  clear hp
  rintro u i bo z st ct w2 ⟨hi, hzl, hzb, hbo, hval, hv, hp⟩
  (repeat (first | (with_reducible first | apply WP_seq | apply WP_block | apply WP_region | apply wpl_nil | apply thenQ_n | apply inBlk_n | apply thenQ_ret | apply inBlk_ret | apply thenQ_exit | apply WP_ret | apply WP_exit | apply WP_skip | apply WP_label | apply WP_scope | apply ngQ_n | apply ngQ_ret) | ((with_reducible apply inBlk_same); exact rfl) | ((with_reducible apply inBlk_other); exact rfl) | ((first | apply wlp | (apply wlg; exact rfl; exact rfl) | (apply wlg2; exact rfl; exact rfl)); (intros; ((first | apply pv_move | apply pv_assign | apply pf_field | (apply pf_load; exact rfl) | (apply pf_loadb; exact rfl) | (apply pf_len; exact rfl) | (apply pf_lens; exact rfl) | exact pv_andF rfl | exact pv_orT rfl | exact pv_andT rfl rfl | exact pv_orF rfl rfl | exact pv_and rfl rfl rfl | exact pv_or rfl rfl rfl | apply pv_lss | apply pv_leq | apply pv_gtr | apply pv_geq | (apply pv_eql; (first | exact rfl | exact ev_sel rfl (by assumption))) | (apply pv_neq; (first | exact rfl | exact ev_sel rfl (by assumption))) | apply pv_min | apply pv_not | apply pv_extract | apply pv_func | apply pv_nil | (apply pf_index; exact rfl) | apply pf_index_s | exact pn_64of32 rfl rfl rfl (by assumption) | exact pn_32of rfl rfl rfl | exact pn_8of rfl rfl rfl | apply pf_conv | (apply pf_build; exact rfl) | exact pv_and2 (ev_sel rfl (by assumption)) rfl (by assumption) rfl | exact pv_or2 (ev_sel rfl (by assumption)) rfl (by assumption) rfl | exact pv_and' rfl rfl | exact pv_or' rfl rfl | (apply pv_seql; (first | exact rfl | exact ev_sel rfl (by assumption))) | (apply pv_sneq; (first | exact rfl | exact ev_sel rfl (by assumption))) | apply pf_build_a | (apply pf_index_a; exact rfl)) <;> (first | exact rfl | exact ev_sel rfl (by assumption) | assumption | exact hp.cell 0 rfl rfl | exact hp.cell 1 rfl rfl | exact hp.cell 2 rfl rfl | exact hp.cell 3 rfl rfl | exact hp.agg_blk 0 rfl rfl | exact hp.agg_blk 1 rfl rfl | exact hp.agg_blk 2 rfl rfl | exact hp.agg_blk 3 rfl rfl | exact hp.old0 (by assumption) | exact hp.cell 4 rfl rfl | exact hp.cell 5 rfl rfl | exact hp.cell 6 rfl rfl | exact hp.cell 7 rfl rfl | exact hp.agg_blk 4 rfl rfl | exact hp.agg_blk 5 rfl rfl | exact hp.agg_blk 6 rfl rfl | exact hp.agg_blk 7 rfl rfl))); (intros; (first | exact fI rfl | exact fB rfl | exact fP rfl | exact fS rfl | exact fT rfl | exact fF0 rfl | exact fF1 rfl | exact fF2 rfl | exact fF3 rfl | exact fF rfl | exact fA2 rfl | exact fA3 rfl | exact fA6 rfl | exact fA13 rfl | exact fM rfl | exact fU rfl | exact ev_sel rfl (by assumption) | exact fL rfl | exact rfl)))))
  refine WP_cond_d rfl (fun h2 => ?_) (fun h2 => ?_)
  · have hlt : i < (d24 x).length := by omega
    obtain ⟨b0, o0, hs0, hc0⟩ := hx.base (by omega)
    have hci := hc0 i _ (List.getElem?_eq_getElem hlt) 0 _ rfl
    have hbd := (d24_bd x).get hlt
    have hg := d24_get hlt
    generalize (d24 x)[i] = dx at hci hbd hg
    have hci : w.cell? ⟨b0, o0 + i * 1, none⟩ = some (.int .i64 (dx : Int)) := hci
    obtain ⟨dy, hgy, hbdy⟩ : ∃ dy, dy = y / 16777216 ^ i % 16777216 ∧ dy < 16777216 := ⟨_, rfl, Nat.mod_lt _ (by decide)⟩
    (repeat (first | (with_reducible first | apply WP_seq | apply WP_block | apply WP_region | apply wpl_nil | apply thenQ_n | apply inBlk_n | apply thenQ_ret | apply inBlk_ret | apply thenQ_exit | apply WP_ret | apply WP_exit | apply WP_skip | apply WP_label | apply WP_scope | apply ngQ_n | apply ngQ_ret) | ((with_reducible apply inBlk_same); exact rfl) | ((with_reducible apply inBlk_other); exact rfl) | ((first | apply wlp | (apply wlg; exact rfl; exact rfl) | (apply wlg2; exact rfl; exact rfl)); (intros; ((first | apply pv_move | apply pv_assign | apply pf_field | (apply pf_load; exact rfl) | (apply pf_loadb; exact rfl) | (apply pf_len; exact rfl) | (apply pf_lens; exact rfl) | exact pv_andF rfl | exact pv_orT rfl | exact pv_andT rfl rfl | exact pv_orF rfl rfl | exact pv_and rfl rfl rfl | exact pv_or rfl rfl rfl | apply pv_lss | apply pv_leq | apply pv_gtr | apply pv_geq | (apply pv_eql; (first | exact rfl | exact ev_sel rfl (by assumption))) | (apply pv_neq; (first | exact rfl | exact ev_sel rfl (by assumption))) | apply pv_min | apply pv_not | apply pv_extract | apply pv_func | apply pv_nil | (apply pf_index; exact rfl) | apply pf_index_s | exact pn_64of32 rfl rfl rfl (by assumption) | exact pn_32of rfl rfl rfl | exact pn_8of rfl rfl rfl | apply pf_conv | (apply pf_build; exact rfl) | exact pv_and2 (ev_sel rfl (by assumption)) rfl (by assumption) rfl | exact pv_or2 (ev_sel rfl (by assumption)) rfl (by assumption) rfl | exact pv_and' rfl rfl | exact pv_or' rfl rfl | (apply pv_seql; (first | exact rfl | exact ev_sel rfl (by assumption))) | (apply pv_sneq; (first | exact rfl | exact ev_sel rfl (by assumption))) | apply pf_build_a | (apply pf_index_a; exact rfl)) <;> (first | exact rfl | exact ev_sel rfl (by assumption) | assumption | exact hp.cell 0 rfl rfl | exact hp.cell 1 rfl rfl | exact hp.cell 2 rfl rfl | exact hp.cell 3 rfl rfl | exact hp.agg_blk 0 rfl rfl | exact hp.agg_blk 1 rfl rfl | exact hp.agg_blk 2 rfl rfl | exact hp.agg_blk 3 rfl rfl | exact hp.old0 (by assumption) | exact hp.cell 4 rfl rfl | exact hp.cell 5 rfl rfl | exact hp.cell 6 rfl rfl | exact hp.cell 7 rfl rfl | exact hp.agg_blk 4 rfl rfl | exact hp.agg_blk 5 rfl rfl | exact hp.agg_blk 6 rfl rfl | exact hp.agg_blk 7 rfl rfl))); (intros; (first | exact fI rfl | exact fB rfl | exact fP rfl | exact fS rfl | exact fT rfl | exact fF0 rfl | exact fF1 rfl | exact fF2 rfl | exact fF3 rfl | exact fF rfl | exact fA2 rfl | exact fA3 rfl | exact fA6 rfl | exact fA13 rfl | exact fM rfl | exact fU rfl | exact ev_sel rfl (by assumption) | exact fL rfl | exact rfl)))))
    (apply wlp; exact pv_sub rfl rfl; exact int_eq (i64_in (by omega) (by omega)))
    (repeat (first | (with_reducible first | apply WP_seq | apply WP_block | apply WP_region | apply wpl_nil | apply thenQ_n | apply inBlk_n | apply thenQ_ret | apply inBlk_ret | apply thenQ_exit | apply WP_ret | apply WP_exit | apply WP_skip | apply WP_label | apply WP_scope | apply ngQ_n | apply ngQ_ret) | ((with_reducible apply inBlk_same); exact rfl) | ((with_reducible apply inBlk_other); exact rfl) | ((first | apply wlp | (apply wlg; exact rfl; exact rfl) | (apply wlg2; exact rfl; exact rfl)); (intros; ((first | apply pv_move | apply pv_assign | apply pf_field | (apply pf_load; exact rfl) | (apply pf_loadb; exact rfl) | (apply pf_len; exact rfl) | (apply pf_lens; exact rfl) | exact pv_andF rfl | exact pv_orT rfl | exact pv_andT rfl rfl | exact pv_orF rfl rfl | exact pv_and rfl rfl rfl | exact pv_or rfl rfl rfl | apply pv_lss | apply pv_leq | apply pv_gtr | apply pv_geq | (apply pv_eql; (first | exact rfl | exact ev_sel rfl (by assumption))) | (apply pv_neq; (first | exact rfl | exact ev_sel rfl (by assumption))) | apply pv_min | apply pv_not | apply pv_extract | apply pv_func | apply pv_nil | (apply pf_index; exact rfl) | apply pf_index_s | exact pn_64of32 rfl rfl rfl (by assumption) | exact pn_32of rfl rfl rfl | exact pn_8of rfl rfl rfl | apply pf_conv | (apply pf_build; exact rfl) | exact pv_and2 (ev_sel rfl (by assumption)) rfl (by assumption) rfl | exact pv_or2 (ev_sel rfl (by assumption)) rfl (by assumption) rfl | exact pv_and' rfl rfl | exact pv_or' rfl rfl | (apply pv_seql; (first | exact rfl | exact ev_sel rfl (by assumption))) | (apply pv_sneq; (first | exact rfl | exact ev_sel rfl (by assumption))) | apply pf_build_a | (apply pf_index_a; exact rfl)) <;> (first | exact rfl | exact ev_sel rfl (by assumption) | assumption | exact hp.cell 0 rfl rfl | exact hp.cell 1 rfl rfl | exact hp.cell 2 rfl rfl | exact hp.cell 3 rfl rfl | exact hp.agg_blk 0 rfl rfl | exact hp.agg_blk 1 rfl rfl | exact hp.agg_blk 2 rfl rfl | exact hp.agg_blk 3 rfl rfl | exact hp.old0 (by assumption) | exact hp.cell 4 rfl rfl | exact hp.cell 5 rfl rfl | exact hp.cell 6 rfl rfl | exact hp.cell 7 rfl rfl | exact hp.agg_blk 4 rfl rfl | exact hp.agg_blk 5 rfl rfl | exact hp.agg_blk 6 rfl rfl | exact hp.agg_blk 7 rfl rfl))); (intros; (first | exact fI rfl | exact fB rfl | exact fP rfl | exact fS rfl | exact fT rfl | exact fF0 rfl | exact fF1 rfl | exact fF2 rfl | exact fF3 rfl | exact fF rfl | exact fA2 rfl | exact fA3 rfl | exact fA6 rfl | exact fA13 rfl | exact fM rfl | exact fU rfl | exact ev_sel rfl (by assumption) | exact fL rfl | exact rfl)))))
    refine WP_cond_d rfl (fun h3 => ?_) (fun h3 => ?_)
    · have hlty : i < (d24 y).length := by omega
      obtain ⟨b1, o1, hs1, hc1⟩ := hy.base (by omega)
      have hcj := hc1 i _ (List.getElem?_eq_getElem hlty) 0 _ rfl
      have hg2 := d24_get hlty
      rw [← hgy] at hg2
      rw [hg2] at hcj
      have hcj : w.cell? ⟨b1, o1 + i * 1, none⟩ = some (.int .i64 (dy : Int)) := hcj
      (repeat (first | (with_reducible first | apply WP_seq | apply WP_block | apply WP_region | apply wpl_nil | apply thenQ_n | apply inBlk_n | apply thenQ_ret | apply inBlk_ret | apply thenQ_exit | apply WP_ret | apply WP_exit | apply WP_skip | apply WP_label | apply WP_scope | apply ngQ_n | apply ngQ_ret) | ((with_reducible apply inBlk_same); exact rfl) | ((with_reducible apply inBlk_other); exact rfl) | ((first | apply wlp | (apply wlg; exact rfl; exact rfl) | (apply wlg2; exact rfl; exact rfl)); (intros; ((first | apply pv_move | apply pv_assign | apply pf_field | (apply pf_load; exact rfl) | (apply pf_loadb; exact rfl) | (apply pf_len; exact rfl) | (apply pf_lens; exact rfl) | exact pv_andF rfl | exact pv_orT rfl | exact pv_andT rfl rfl | exact pv_orF rfl rfl | exact pv_and rfl rfl rfl | exact pv_or rfl rfl rfl | apply pv_lss | apply pv_leq | apply pv_gtr | apply pv_geq | (apply pv_eql; (first | exact rfl | exact ev_sel rfl (by assumption))) | (apply pv_neq; (first | exact rfl | exact ev_sel rfl (by assumption))) | apply pv_min | apply pv_not | apply pv_extract | apply pv_func | apply pv_nil | (apply pf_index; exact rfl) | apply pf_index_s | exact pn_64of32 rfl rfl rfl (by assumption) | exact pn_32of rfl rfl rfl | exact pn_8of rfl rfl rfl | apply pf_conv | (apply pf_build; exact rfl) | exact pv_and2 (ev_sel rfl (by assumption)) rfl (by assumption) rfl | exact pv_or2 (ev_sel rfl (by assumption)) rfl (by assumption) rfl | exact pv_and' rfl rfl | exact pv_or' rfl rfl | (apply pv_seql; (first | exact rfl | exact ev_sel rfl (by assumption))) | (apply pv_sneq; (first | exact rfl | exact ev_sel rfl (by assumption))) | apply pf_build_a | (apply pf_index_a; exact rfl)) <;> (first | exact rfl | exact ev_sel rfl (by assumption) | assumption | exact hp.cell 0 rfl rfl | exact hp.cell 1 rfl rfl | exact hp.cell 2 rfl rfl | exact hp.cell 3 rfl rfl | exact hp.agg_blk 0 rfl rfl | exact hp.agg_blk 1 rfl rfl | exact hp.agg_blk 2 rfl rfl | exact hp.agg_blk 3 rfl rfl | exact hp.old0 (by assumption) | exact hp.cell 4 rfl rfl | exact hp.cell 5 rfl rfl | exact hp.cell 6 rfl rfl | exact hp.cell 7 rfl rfl | exact hp.agg_blk 4 rfl rfl | exact hp.agg_blk 5 rfl rfl | exact hp.agg_blk 6 rfl rfl | exact hp.agg_blk 7 rfl rfl))); (intros; (first | exact fI rfl | exact fB rfl | exact fP rfl | exact fS rfl | exact fT rfl | exact fF0 rfl | exact fF1 rfl | exact fF2 rfl | exact fF3 rfl | exact fF rfl | exact fA2 rfl | exact fA3 rfl | exact fA6 rfl | exact fA13 rfl | exact fM rfl | exact fU rfl | exact ev_sel rfl (by assumption) | exact fL rfl | exact rfl)))))
      (apply wlp; exact pv_sub rfl rfl; exact int_eq (i64_in (by omega) (by omega)))
      (repeat (first | (with_reducible first | apply WP_seq | apply WP_block | apply WP_region | apply wpl_nil | apply thenQ_n | apply inBlk_n | apply thenQ_ret | apply inBlk_ret | apply thenQ_exit | apply WP_ret | apply WP_exit | apply WP_skip | apply WP_label | apply WP_scope | apply ngQ_n | apply ngQ_ret) | ((with_reducible apply inBlk_same); exact rfl) | ((with_reducible apply inBlk_other); exact rfl) | ((first | apply wlp | (apply wlg; exact rfl; exact rfl) | (apply wlg2; exact rfl; exact rfl)); (intros; ((first | apply pv_move | apply pv_assign | apply pf_field | (apply pf_load; exact rfl) | (apply pf_loadb; exact rfl) | (apply pf_len; exact rfl) | (apply pf_lens; exact rfl) | exact pv_andF rfl | exact pv_orT rfl | exact pv_andT rfl rfl | exact pv_orF rfl rfl | exact pv_and rfl rfl rfl | exact pv_or rfl rfl rfl | apply pv_lss | apply pv_leq | apply pv_gtr | apply pv_geq | (apply pv_eql; (first | exact rfl | exact ev_sel rfl (by assumption))) | (apply pv_neq; (first | exact rfl | exact ev_sel rfl (by assumption))) | apply pv_min | apply pv_not | apply pv_extract | apply pv_func | apply pv_nil | (apply pf_index; exact rfl) | apply pf_index_s | exact pn_64of32 rfl rfl rfl (by assumption) | exact pn_32of rfl rfl rfl | exact pn_8of rfl rfl rfl | apply pf_conv | (apply pf_build; exact rfl) | exact pv_and2 (ev_sel rfl (by assumption)) rfl (by assumption) rfl | exact pv_or2 (ev_sel rfl (by assumption)) rfl (by assumption) rfl | exact pv_and' rfl rfl | exact pv_or' rfl rfl | (apply pv_seql; (first | exact rfl | exact ev_sel rfl (by assumption))) | (apply pv_sneq; (first | exact rfl | exact ev_sel rfl (by assumption))) | apply pf_build_a | (apply pf_index_a; exact rfl)) <;> (first | exact rfl | exact ev_sel rfl (by assumption) | assumption | exact hp.cell 0 rfl rfl | exact hp.cell 1 rfl rfl | exact hp.cell 2 rfl rfl | exact hp.cell 3 rfl rfl | exact hp.agg_blk 0 rfl rfl | exact hp.agg_blk 1 rfl rfl | exact hp.agg_blk 2 rfl rfl | exact hp.agg_blk 3 rfl rfl | exact hp.old0 (by assumption) | exact hp.cell 4 rfl rfl | exact hp.cell 5 rfl rfl | exact hp.cell 6 rfl rfl | exact hp.cell 7 rfl rfl | exact hp.agg_blk 4 rfl rfl | exact hp.agg_blk 5 rfl rfl | exact hp.agg_blk 6 rfl rfl | exact hp.agg_blk 7 rfl rfl))); (intros; (first | exact fI rfl | exact fB rfl | exact fP rfl | exact fS rfl | exact fT rfl | exact fF0 rfl | exact fF1 rfl | exact fF2 rfl | exact fF3 rfl | exact fF rfl | exact fA2 rfl | exact fA3 rfl | exact fA6 rfl | exact fA13 rfl | exact fM rfl | exact fU rfl | exact ev_sel rfl (by assumption) | exact fL rfl | exact rfl)))))
      refine WP_cond_d rfl (fun h4 => ?_) (fun h4 => ?_)
      · obtain ⟨q, hq⟩ : ∃ q : Nat, (q : Int) = (dx : Int) - bo - dy + 16777216 := ⟨((dx : Int) - bo - dy + 16777216).toNat, by omega⟩
        (repeat (first | (with_reducible first | apply WP_seq | apply WP_block | apply WP_region | apply wpl_nil | apply thenQ_n | apply inBlk_n | apply thenQ_ret | apply inBlk_ret | apply thenQ_exit | apply WP_ret | apply WP_exit | apply WP_skip | apply WP_label | apply WP_scope | apply ngQ_n | apply ngQ_ret) | ((with_reducible apply inBlk_same); exact rfl) | ((with_reducible apply inBlk_other); exact rfl) | ((first | apply wlp | (apply wlg; exact rfl; exact rfl) | (apply wlg2; exact rfl; exact rfl)); (intros; ((first | apply pv_move | apply pv_assign | apply pf_field | (apply pf_load; exact rfl) | (apply pf_loadb; exact rfl) | (apply pf_len; exact rfl) | (apply pf_lens; exact rfl) | exact pv_andF rfl | exact pv_orT rfl | exact pv_andT rfl rfl | exact pv_orF rfl rfl | exact pv_and rfl rfl rfl | exact pv_or rfl rfl rfl | apply pv_lss | apply pv_leq | apply pv_gtr | apply pv_geq | (apply pv_eql; (first | exact rfl | exact ev_sel rfl (by assumption))) | (apply pv_neq; (first | exact rfl | exact ev_sel rfl (by assumption))) | apply pv_min | apply pv_not | apply pv_extract | apply pv_func | apply pv_nil | (apply pf_index; exact rfl) | apply pf_index_s | exact pn_64of32 rfl rfl rfl (by assumption) | exact pn_32of rfl rfl rfl | exact pn_8of rfl rfl rfl | apply pf_conv | (apply pf_build; exact rfl) | exact pv_and2 (ev_sel rfl (by assumption)) rfl (by assumption) rfl | exact pv_or2 (ev_sel rfl (by assumption)) rfl (by assumption) rfl | exact pv_and' rfl rfl | exact pv_or' rfl rfl | (apply pv_seql; (first | exact rfl | exact ev_sel rfl (by assumption))) | (apply pv_sneq; (first | exact rfl | exact ev_sel rfl (by assumption))) | apply pf_build_a | (apply pf_index_a; exact rfl)) <;> (first | exact rfl | exact ev_sel rfl (by assumption) | assumption | exact hp.cell 0 rfl rfl | exact hp.cell 1 rfl rfl | exact hp.cell 2 rfl rfl | exact hp.cell 3 rfl rfl | exact hp.agg_blk 0 rfl rfl | exact hp.agg_blk 1 rfl rfl | exact hp.agg_blk 2 rfl rfl | exact hp.agg_blk 3 rfl rfl | exact hp.old0 (by assumption) | exact hp.cell 4 rfl rfl | exact hp.cell 5 rfl rfl | exact hp.cell 6 rfl rfl | exact hp.cell 7 rfl rfl | exact hp.agg_blk 4 rfl rfl | exact hp.agg_blk 5 rfl rfl | exact hp.agg_blk 6 rfl rfl | exact hp.agg_blk 7 rfl rfl))); (intros; (first | exact fI rfl | exact fB rfl | exact fP rfl | exact fS rfl | exact fT rfl | exact fF0 rfl | exact fF1 rfl | exact fF2 rfl | exact fF3 rfl | exact fF rfl | exact fA2 rfl | exact fA3 rfl | exact fA6 rfl | exact fA13 rfl | exact fM rfl | exact fU rfl | exact ev_sel rfl (by assumption) | exact fL rfl | exact rfl)))))
        (apply wlp; exact pv_add rfl rfl; exact int_eq (b := (q : Int)) (by rw [i64_in (by omega) (by omega)]; omega))
        (repeat (first | (with_reducible first | apply WP_seq | apply WP_block | apply WP_region | apply wpl_nil | apply thenQ_n | apply inBlk_n | apply thenQ_ret | apply inBlk_ret | apply thenQ_exit | apply WP_ret | apply WP_exit | apply WP_skip | apply WP_label | apply WP_scope | apply ngQ_n | apply ngQ_ret) | ((with_reducible apply inBlk_same); exact rfl) | ((with_reducible apply inBlk_other); exact rfl) | ((first | apply wlp | (apply wlg; exact rfl; exact rfl) | (apply wlg2; exact rfl; exact rfl)); (intros; ((first | apply pv_move | apply pv_assign | apply pf_field | (apply pf_load; exact rfl) | (apply pf_loadb; exact rfl) | (apply pf_len; exact rfl) | (apply pf_lens; exact rfl) | exact pv_andF rfl | exact pv_orT rfl | exact pv_andT rfl rfl | exact pv_orF rfl rfl | exact pv_and rfl rfl rfl | exact pv_or rfl rfl rfl | apply pv_lss | apply pv_leq | apply pv_gtr | apply pv_geq | (apply pv_eql; (first | exact rfl | exact ev_sel rfl (by assumption))) | (apply pv_neq; (first | exact rfl | exact ev_sel rfl (by assumption))) | apply pv_min | apply pv_not | apply pv_extract | apply pv_func | apply pv_nil | (apply pf_index; exact rfl) | apply pf_index_s | exact pn_64of32 rfl rfl rfl (by assumption) | exact pn_32of rfl rfl rfl | exact pn_8of rfl rfl rfl | apply pf_conv | (apply pf_build; exact rfl) | exact pv_and2 (ev_sel rfl (by assumption)) rfl (by assumption) rfl | exact pv_or2 (ev_sel rfl (by assumption)) rfl (by assumption) rfl | exact pv_and' rfl rfl | exact pv_or' rfl rfl | (apply pv_seql; (first | exact rfl | exact ev_sel rfl (by assumption))) | (apply pv_sneq; (first | exact rfl | exact ev_sel rfl (by assumption))) | apply pf_build_a | (apply pf_index_a; exact rfl)) <;> (first | exact rfl | exact ev_sel rfl (by assumption) | assumption | exact hp.cell 0 rfl rfl | exact hp.cell 1 rfl rfl | exact hp.cell 2 rfl rfl | exact hp.cell 3 rfl rfl | exact hp.agg_blk 0 rfl rfl | exact hp.agg_blk 1 rfl rfl | exact hp.agg_blk 2 rfl rfl | exact hp.agg_blk 3 rfl rfl | exact hp.old0 (by assumption) | exact hp.cell 4 rfl rfl | exact hp.cell 5 rfl rfl | exact hp.cell 6 rfl rfl | exact hp.cell 7 rfl rfl | exact hp.agg_blk 4 rfl rfl | exact hp.agg_blk 5 rfl rfl | exact hp.agg_blk 6 rfl rfl | exact hp.agg_blk 7 rfl rfl))); (intros; (first | exact fI rfl | exact fB rfl | exact fP rfl | exact fS rfl | exact fT rfl | exact fF0 rfl | exact fF1 rfl | exact fF2 rfl | exact fF3 rfl | exact fF rfl | exact fA2 rfl | exact fA3 rfl | exact fA6 rfl | exact fA13 rfl | exact fM rfl | exact fU rfl | exact ev_sel rfl (by assumption) | exact fL rfl | exact rfl)))))
        (apply wls; exact sf_slice hp rfl rfl rfl rfl rfl rfl rfl; rintro _ w3 ⟨nb, rfl, hp⟩)
        (apply wls; exact sf_app1 eD z q hp 1 0 rfl rfl rfl rfl rfl rfl (fun _ => rfl) rfl rfl rfl hv rfl rfl (by omega); rintro _ w4 ⟨s', c', rfl, hv', hp⟩)
        have hp := hp.tail
        (repeat (first | (with_reducible first | apply WP_seq | apply WP_block | apply WP_region | apply wpl_nil | apply thenQ_n | apply inBlk_n | apply thenQ_ret | apply inBlk_ret | apply thenQ_exit | apply WP_ret | apply WP_exit | apply WP_skip | apply WP_label | apply WP_scope | apply ngQ_n | apply ngQ_ret) | ((with_reducible apply inBlk_same); exact rfl) | ((with_reducible apply inBlk_other); exact rfl) | ((first | apply wlp | (apply wlg; exact rfl; exact rfl) | (apply wlg2; exact rfl; exact rfl)); (intros; ((first | apply pv_move | apply pv_assign | apply pf_field | (apply pf_load; exact rfl) | (apply pf_loadb; exact rfl) | (apply pf_len; exact rfl) | (apply pf_lens; exact rfl) | exact pv_andF rfl | exact pv_orT rfl | exact pv_andT rfl rfl | exact pv_orF rfl rfl | exact pv_and rfl rfl rfl | exact pv_or rfl rfl rfl | apply pv_lss | apply pv_leq | apply pv_gtr | apply pv_geq | (apply pv_eql; (first | exact rfl | exact ev_sel rfl (by assumption))) | (apply pv_neq; (first | exact rfl | exact ev_sel rfl (by assumption))) | apply pv_min | apply pv_not | apply pv_extract | apply pv_func | apply pv_nil | (apply pf_index; exact rfl) | apply pf_index_s | exact pn_64of32 rfl rfl rfl (by assumption) | exact pn_32of rfl rfl rfl | exact pn_8of rfl rfl rfl | apply pf_conv | (apply pf_build; exact rfl) | exact pv_and2 (ev_sel rfl (by assumption)) rfl (by assumption) rfl | exact pv_or2 (ev_sel rfl (by assumption)) rfl (by assumption) rfl | exact pv_and' rfl rfl | exact pv_or' rfl rfl | (apply pv_seql; (first | exact rfl | exact ev_sel rfl (by assumption))) | (apply pv_sneq; (first | exact rfl | exact ev_sel rfl (by assumption))) | apply pf_build_a | (apply pf_index_a; exact rfl)) <;> (first | exact rfl | exact ev_sel rfl (by assumption) | assumption | exact hp.cell 0 rfl rfl | exact hp.cell 1 rfl rfl | exact hp.cell 2 rfl rfl | exact hp.cell 3 rfl rfl | exact hp.agg_blk 0 rfl rfl | exact hp.agg_blk 1 rfl rfl | exact hp.agg_blk 2 rfl rfl | exact hp.agg_blk 3 rfl rfl | exact hp.old0 (by assumption) | exact hp.cell 4 rfl rfl | exact hp.cell 5 rfl rfl | exact hp.cell 6 rfl rfl | exact hp.cell 7 rfl rfl | exact hp.agg_blk 4 rfl rfl | exact hp.agg_blk 5 rfl rfl | exact hp.agg_blk 6 rfl rfl | exact hp.agg_blk 7 rfl rfl))); (intros; (first | exact fI rfl | exact fB rfl | exact fP rfl | exact fS rfl | exact fT rfl | exact fF0 rfl | exact fF1 rfl | exact fF2 rfl | exact fF3 rfl | exact fF rfl | exact fA2 rfl | exact fA3 rfl | exact fA6 rfl | exact fA13 rfl | exact fM rfl | exact fU rfl | exact ev_sel rfl (by assumption) | exact fL rfl | exact rfl)))))
        (apply wlp; exact pv_add rfl rfl; exact int_eq (i64_in (by omega) (by omega)))
        (repeat (first | (with_reducible first | apply WP_seq | apply WP_block | apply WP_region | apply wpl_nil | apply thenQ_n | apply inBlk_n | apply thenQ_ret | apply inBlk_ret | apply thenQ_exit | apply WP_ret | apply WP_exit | apply WP_skip | apply WP_label | apply WP_scope | apply ngQ_n | apply ngQ_ret) | ((with_reducible apply inBlk_same); exact rfl) | ((with_reducible apply inBlk_other); exact rfl) | ((first | apply wlp | (apply wlg; exact rfl; exact rfl) | (apply wlg2; exact rfl; exact rfl)); (intros; ((first | apply pv_move | apply pv_assign | apply pf_field | (apply pf_load; exact rfl) | (apply pf_loadb; exact rfl) | (apply pf_len; exact rfl) | (apply pf_lens; exact rfl) | exact pv_andF rfl | exact pv_orT rfl | exact pv_andT rfl rfl | exact pv_orF rfl rfl | exact pv_and rfl rfl rfl | exact pv_or rfl rfl rfl | apply pv_lss | apply pv_leq | apply pv_gtr | apply pv_geq | (apply pv_eql; (first | exact rfl | exact ev_sel rfl (by assumption))) | (apply pv_neq; (first | exact rfl | exact ev_sel rfl (by assumption))) | apply pv_min | apply pv_not | apply pv_extract | apply pv_func | apply pv_nil | (apply pf_index; exact rfl) | apply pf_index_s | exact pn_64of32 rfl rfl rfl (by assumption) | exact pn_32of rfl rfl rfl | exact pn_8of rfl rfl rfl | apply pf_conv | (apply pf_build; exact rfl) | exact pv_and2 (ev_sel rfl (by assumption)) rfl (by assumption) rfl | exact pv_or2 (ev_sel rfl (by assumption)) rfl (by assumption) rfl | exact pv_and' rfl rfl | exact pv_or' rfl rfl | (apply pv_seql; (first | exact rfl | exact ev_sel rfl (by assumption))) | (apply pv_sneq; (first | exact rfl | exact ev_sel rfl (by assumption))) | apply pf_build_a | (apply pf_index_a; exact rfl)) <;> (first | exact rfl | exact ev_sel rfl (by assumption) | assumption | exact hp.cell 0 rfl rfl | exact hp.cell 1 rfl rfl | exact hp.cell 2 rfl rfl | exact hp.cell 3 rfl rfl | exact hp.agg_blk 0 rfl rfl | exact hp.agg_blk 1 rfl rfl | exact hp.agg_blk 2 rfl rfl | exact hp.agg_blk 3 rfl rfl | exact hp.old0 (by assumption) | exact hp.cell 4 rfl rfl | exact hp.cell 5 rfl rfl | exact hp.cell 6 rfl rfl | exact hp.cell 7 rfl rfl | exact hp.agg_blk 4 rfl rfl | exact hp.agg_blk 5 rfl rfl | exact hp.agg_blk 6 rfl rfl | exact hp.agg_blk 7 rfl rfl))); (intros; (first | exact fI rfl | exact fB rfl | exact fP rfl | exact fS rfl | exact fT rfl | exact fF0 rfl | exact fF1 rfl | exact fF2 rfl | exact fF3 rfl | exact fF rfl | exact fA2 rfl | exact fA3 rfl | exact fA6 rfl | exact fA13 rfl | exact fM rfl | exact fU rfl | exact ev_sel rfl (by assumption) | exact fL rfl | exact rfl)))))
        refine ⟨i + 1, 1, z ++ [q], s', c', put_self (put_self (put_self (Same.eq (by repeat (first | exact Same.hav | exact Same.refl | refine Same.put rfl ?_ | refine Same.havs rfl ?_))) rfl) rfl) rfl, ⟨by omega, by simp [hzl], hzb.app (.cons (by omega) .nil), by omega, ?_, hv', hp⟩, by omega⟩
        rw [val_snoc, hzl]
        refine sub_step hval ?_
        rw [← hg, ← hgy]
        omega
      · obtain ⟨q, hq⟩ : ∃ q : Nat, (q : Int) = (dx : Int) - bo - dy := ⟨((dx : Int) - bo - dy).toNat, by omega⟩
        rw [← hq]
        (repeat (first | (with_reducible first | apply WP_seq | apply WP_block | apply WP_region | apply wpl_nil | apply thenQ_n | apply inBlk_n | apply thenQ_ret | apply inBlk_ret | apply thenQ_exit | apply WP_ret | apply WP_exit | apply WP_skip | apply WP_label | apply WP_scope | apply ngQ_n | apply ngQ_ret) | ((with_reducible apply inBlk_same); exact rfl) | ((with_reducible apply inBlk_other); exact rfl) | ((first | apply wlp | (apply wlg; exact rfl; exact rfl) | (apply wlg2; exact rfl; exact rfl)); (intros; ((first | apply pv_move | apply pv_assign | apply pf_field | (apply pf_load; exact rfl) | (apply pf_loadb; exact rfl) | (apply pf_len; exact rfl) | (apply pf_lens; exact rfl) | exact pv_andF rfl | exact pv_orT rfl | exact pv_andT rfl rfl | exact pv_orF rfl rfl | exact pv_and rfl rfl rfl | exact pv_or rfl rfl rfl | apply pv_lss | apply pv_leq | apply pv_gtr | apply pv_geq | (apply pv_eql; (first | exact rfl | exact ev_sel rfl (by assumption))) | (apply pv_neq; (first | exact rfl | exact ev_sel rfl (by assumption))) | apply pv_min | apply pv_not | apply pv_extract | apply pv_func | apply pv_nil | (apply pf_index; exact rfl) | apply pf_index_s | exact pn_64of32 rfl rfl rfl (by assumption) | exact pn_32of rfl rfl rfl | exact pn_8of rfl rfl rfl | apply pf_conv | (apply pf_build; exact rfl) | exact pv_and2 (ev_sel rfl (by assumption)) rfl (by assumption) rfl | exact pv_or2 (ev_sel rfl (by assumption)) rfl (by assumption) rfl | exact pv_and' rfl rfl | exact pv_or' rfl rfl | (apply pv_seql; (first | exact rfl | exact ev_sel rfl (by assumption))) | (apply pv_sneq; (first | exact rfl | exact ev_sel rfl (by assumption))) | apply pf_build_a | (apply pf_index_a; exact rfl)) <;> (first | exact rfl | exact ev_sel rfl (by assumption) | assumption | exact hp.cell 0 rfl rfl | exact hp.cell 1 rfl rfl | exact hp.cell 2 rfl rfl | exact hp.cell 3 rfl rfl | exact hp.agg_blk 0 rfl rfl | exact hp.agg_blk 1 rfl rfl | exact hp.agg_blk 2 rfl rfl | exact hp.agg_blk 3 rfl rfl | exact hp.old0 (by assumption) | exact hp.cell 4 rfl rfl | exact hp.cell 5 rfl rfl | exact hp.cell 6 rfl rfl | exact hp.cell 7 rfl rfl | exact hp.agg_blk 4 rfl rfl | exact hp.agg_blk 5 rfl rfl | exact hp.agg_blk 6 rfl rfl | exact hp.agg_blk 7 rfl rfl))); (intros; (first | exact fI rfl | exact fB rfl | exact fP rfl | exact fS rfl | exact fT rfl | exact fF0 rfl | exact fF1 rfl | exact fF2 rfl | exact fF3 rfl | exact fF rfl | exact fA2 rfl | exact fA3 rfl | exact fA6 rfl | exact fA13 rfl | exact fM rfl | exact fU rfl | exact ev_sel rfl (by assumption) | exact fL rfl | exact rfl)))))
        (apply wls; exact sf_slice hp rfl rfl rfl rfl rfl rfl rfl; rintro _ w3 ⟨nb, rfl, hp⟩)
        (apply wls; exact sf_app1 eD z q hp 1 0 rfl rfl rfl rfl rfl rfl (fun _ => rfl) rfl rfl rfl hv rfl rfl (by omega); rintro _ w4 ⟨s', c', rfl, hv', hp⟩)
        have hp := hp.tail
        (repeat (first | (with_reducible first | apply WP_seq | apply WP_block | apply WP_region | apply wpl_nil | apply thenQ_n | apply inBlk_n | apply thenQ_ret | apply inBlk_ret | apply thenQ_exit | apply WP_ret | apply WP_exit | apply WP_skip | apply WP_label | apply WP_scope | apply ngQ_n | apply ngQ_ret) | ((with_reducible apply inBlk_same); exact rfl) | ((with_reducible apply inBlk_other); exact rfl) | ((first | apply wlp | (apply wlg; exact rfl; exact rfl) | (apply wlg2; exact rfl; exact rfl)); (intros; ((first | apply pv_move | apply pv_assign | apply pf_field | (apply pf_load; exact rfl) | (apply pf_loadb; exact rfl) | (apply pf_len; exact rfl) | (apply pf_lens; exact rfl) | exact pv_andF rfl | exact pv_orT rfl | exact pv_andT rfl rfl | exact pv_orF rfl rfl | exact pv_and rfl rfl rfl | exact pv_or rfl rfl rfl | apply pv_lss | apply pv_leq | apply pv_gtr | apply pv_geq | (apply pv_eql; (first | exact rfl | exact ev_sel rfl (by assumption))) | (apply pv_neq; (first | exact rfl | exact ev_sel rfl (by assumption))) | apply pv_min | apply pv_not | apply pv_extract | apply pv_func | apply pv_nil | (apply pf_index; exact rfl) | apply pf_index_s | exact pn_64of32 rfl rfl rfl (by assumption) | exact pn_32of rfl rfl rfl | exact pn_8of rfl rfl rfl | apply pf_conv | (apply pf_build; exact rfl) | exact pv_and2 (ev_sel rfl (by assumption)) rfl (by assumption) rfl | exact pv_or2 (ev_sel rfl (by assumption)) rfl (by assumption) rfl | exact pv_and' rfl rfl | exact pv_or' rfl rfl | (apply pv_seql; (first | exact rfl | exact ev_sel rfl (by assumption))) | (apply pv_sneq; (first | exact rfl | exact ev_sel rfl (by assumption))) | apply pf_build_a | (apply pf_index_a; exact rfl)) <;> (first | exact rfl | exact ev_sel rfl (by assumption) | assumption | exact hp.cell 0 rfl rfl | exact hp.cell 1 rfl rfl | exact hp.cell 2 rfl rfl | exact hp.cell 3 rfl rfl | exact hp.agg_blk 0 rfl rfl | exact hp.agg_blk 1 rfl rfl | exact hp.agg_blk 2 rfl rfl | exact hp.agg_blk 3 rfl rfl | exact hp.old0 (by assumption) | exact hp.cell 4 rfl rfl | exact hp.cell 5 rfl rfl | exact hp.cell 6 rfl rfl | exact hp.cell 7 rfl rfl | exact hp.agg_blk 4 rfl rfl | exact hp.agg_blk 5 rfl rfl | exact hp.agg_blk 6 rfl rfl | exact hp.agg_blk 7 rfl rfl))); (intros; (first | exact fI rfl | exact fB rfl | exact fP rfl | exact fS rfl | exact fT rfl | exact fF0 rfl | exact fF1 rfl | exact fF2 rfl | exact fF3 rfl | exact fF rfl | exact fA2 rfl | exact fA3 rfl | exact fA6 rfl | exact fA13 rfl | exact fM rfl | exact fU rfl | exact ev_sel rfl (by assumption) | exact fL rfl | exact rfl)))))
        (apply wlp; exact pv_add rfl rfl; exact int_eq (i64_in (by omega) (by omega)))
        (repeat (first | (with_reducible first | apply WP_seq | apply WP_block | apply WP_region | apply wpl_nil | apply thenQ_n | apply inBlk_n | apply thenQ_ret | apply inBlk_ret | apply thenQ_exit | apply WP_ret | apply WP_exit | apply WP_skip | apply WP_label | apply WP_scope | apply ngQ_n | apply ngQ_ret) | ((with_reducible apply inBlk_same); exact rfl) | ((with_reducible apply inBlk_other); exact rfl) | ((first | apply wlp | (apply wlg; exact rfl; exact rfl) | (apply wlg2; exact rfl; exact rfl)); (intros; ((first | apply pv_move | apply pv_assign | apply pf_field | (apply pf_load; exact rfl) | (apply pf_loadb; exact rfl) | (apply pf_len; exact rfl) | (apply pf_lens; exact rfl) | exact pv_andF rfl | exact pv_orT rfl | exact pv_andT rfl rfl | exact pv_orF rfl rfl | exact pv_and rfl rfl rfl | exact pv_or rfl rfl rfl | apply pv_lss | apply pv_leq | apply pv_gtr | apply pv_geq | (apply pv_eql; (first | exact rfl | exact ev_sel rfl (by assumption))) | (apply pv_neq; (first | exact rfl | exact ev_sel rfl (by assumption))) | apply pv_min | apply pv_not | apply pv_extract | apply pv_func | apply pv_nil | (apply pf_index; exact rfl) | apply pf_index_s | exact pn_64of32 rfl rfl rfl (by assumption) | exact pn_32of rfl rfl rfl | exact pn_8of rfl rfl rfl | apply pf_conv | (apply pf_build; exact rfl) | exact pv_and2 (ev_sel rfl (by assumption)) rfl (by assumption) rfl | exact pv_or2 (ev_sel rfl (by assumption)) rfl (by assumption) rfl | exact pv_and' rfl rfl | exact pv_or' rfl rfl | (apply pv_seql; (first | exact rfl | exact ev_sel rfl (by assumption))) | (apply pv_sneq; (first | exact rfl | exact ev_sel rfl (by assumption))) | apply pf_build_a | (apply pf_index_a; exact rfl)) <;> (first | exact rfl | exact ev_sel rfl (by assumption) | assumption | exact hp.cell 0 rfl rfl | exact hp.cell 1 rfl rfl | exact hp.cell 2 rfl rfl | exact hp.cell 3 rfl rfl | exact hp.agg_blk 0 rfl rfl | exact hp.agg_blk 1 rfl rfl | exact hp.agg_blk 2 rfl rfl | exact hp.agg_blk 3 rfl rfl | exact hp.old0 (by assumption) | exact hp.cell 4 rfl rfl | exact hp.cell 5 rfl rfl | exact hp.cell 6 rfl rfl | exact hp.cell 7 rfl rfl | exact hp.agg_blk 4 rfl rfl | exact hp.agg_blk 5 rfl rfl | exact hp.agg_blk 6 rfl rfl | exact hp.agg_blk 7 rfl rfl))); (intros; (first | exact fI rfl | exact fB rfl | exact fP rfl | exact fS rfl | exact fT rfl | exact fF0 rfl | exact fF1 rfl | exact fF2 rfl | exact fF3 rfl | exact fF rfl | exact fA2 rfl | exact fA3 rfl | exact fA6 rfl | exact fA13 rfl | exact fM rfl | exact fU rfl | exact ev_sel rfl (by assumption) | exact fL rfl | exact rfl)))))
        refine ⟨i + 1, 0, z ++ [q], s', c', put_self (put_self (put_self (Same.eq (by repeat (first | exact Same.hav | exact Same.refl | refine Same.put rfl ?_ | refine Same.havs rfl ?_))) rfl) rfl) rfl, ⟨by omega, by simp [hzl], hzb.app (.cons (by omega) .nil), by omega, ?_, hv', hp⟩, by omega⟩
        rw [val_snoc, hzl]
        refine sub_step hval ?_
        rw [← hg, ← hgy]
        omega
    · have hdy : dy = 0 := by rw [hgy]; exact d24_beyond (by omega)
      (repeat (first | (with_reducible first | apply WP_seq | apply WP_block | apply WP_region | apply wpl_nil | apply thenQ_n | apply inBlk_n | apply thenQ_ret | apply inBlk_ret | apply thenQ_exit | apply WP_ret | apply WP_exit | apply WP_skip | apply WP_label | apply WP_scope | apply ngQ_n | apply ngQ_ret) | ((with_reducible apply inBlk_same); exact rfl) | ((with_reducible apply inBlk_other); exact rfl) | ((first | apply wlp | (apply wlg; exact rfl; exact rfl) | (apply wlg2; exact rfl; exact rfl)); (intros; ((first | apply pv_move | apply pv_assign | apply pf_field | (apply pf_load; exact rfl) | (apply pf_loadb; exact rfl) | (apply pf_len; exact rfl) | (apply pf_lens; exact rfl) | exact pv_andF rfl | exact pv_orT rfl | exact pv_andT rfl rfl | exact pv_orF rfl rfl | exact pv_and rfl rfl rfl | exact pv_or rfl rfl rfl | apply pv_lss | apply pv_leq | apply pv_gtr | apply pv_geq | (apply pv_eql; (first | exact rfl | exact ev_sel rfl (by assumption))) | (apply pv_neq; (first | exact rfl | exact ev_sel rfl (by assumption))) | apply pv_min | apply pv_not | apply pv_extract | apply pv_func | apply pv_nil | (apply pf_index; exact rfl) | apply pf_index_s | exact pn_64of32 rfl rfl rfl (by assumption) | exact pn_32of rfl rfl rfl | exact pn_8of rfl rfl rfl | apply pf_conv | (apply pf_build; exact rfl) | exact pv_and2 (ev_sel rfl (by assumption)) rfl (by assumption) rfl | exact pv_or2 (ev_sel rfl (by assumption)) rfl (by assumption) rfl | exact pv_and' rfl rfl | exact pv_or' rfl rfl | (apply pv_seql; (first | exact rfl | exact ev_sel rfl (by assumption))) | (apply pv_sneq; (first | exact rfl | exact ev_sel rfl (by assumption))) | apply pf_build_a | (apply pf_index_a; exact rfl)) <;> (first | exact rfl | exact ev_sel rfl (by assumption) | assumption | exact hp.cell 0 rfl rfl | exact hp.cell 1 rfl rfl | exact hp.cell 2 rfl rfl | exact hp.cell 3 rfl rfl | exact hp.agg_blk 0 rfl rfl | exact hp.agg_blk 1 rfl rfl | exact hp.agg_blk 2 rfl rfl | exact hp.agg_blk 3 rfl rfl | exact hp.old0 (by assumption) | exact hp.cell 4 rfl rfl | exact hp.cell 5 rfl rfl | exact hp.cell 6 rfl rfl | exact hp.cell 7 rfl rfl | exact hp.agg_blk 4 rfl rfl | exact hp.agg_blk 5 rfl rfl | exact hp.agg_blk 6 rfl rfl | exact hp.agg_blk 7 rfl rfl))); (intros; (first | exact fI rfl | exact fB rfl | exact fP rfl | exact fS rfl | exact fT rfl | exact fF0 rfl | exact fF1 rfl | exact fF2 rfl | exact fF3 rfl | exact fF rfl | exact fA2 rfl | exact fA3 rfl | exact fA6 rfl | exact fA13 rfl | exact fM rfl | exact fU rfl | exact ev_sel rfl (by assumption) | exact fL rfl | exact rfl)))))
      refine WP_cond_d rfl (fun h4 => ?_) (fun h4 => ?_)
      · obtain ⟨q, hq⟩ : ∃ q : Nat, (q : Int) = (dx : Int) - bo + 16777216 := ⟨((dx : Int) - bo + 16777216).toNat, by omega⟩
        (repeat (first | (with_reducible first | apply WP_seq | apply WP_block | apply WP_region | apply wpl_nil | apply thenQ_n | apply inBlk_n | apply thenQ_ret | apply inBlk_ret | apply thenQ_exit | apply WP_ret | apply WP_exit | apply WP_skip | apply WP_label | apply WP_scope | apply ngQ_n | apply ngQ_ret) | ((with_reducible apply inBlk_same); exact rfl) | ((with_reducible apply inBlk_other); exact rfl) | ((first | apply wlp | (apply wlg; exact rfl; exact rfl) | (apply wlg2; exact rfl; exact rfl)); (intros; ((first | apply pv_move | apply pv_assign | apply pf_field | (apply pf_load; exact rfl) | (apply pf_loadb; exact rfl) | (apply pf_len; exact rfl) | (apply pf_lens; exact rfl) | exact pv_andF rfl | exact pv_orT rfl | exact pv_andT rfl rfl | exact pv_orF rfl rfl | exact pv_and rfl rfl rfl | exact pv_or rfl rfl rfl | apply pv_lss | apply pv_leq | apply pv_gtr | apply pv_geq | (apply pv_eql; (first | exact rfl | exact ev_sel rfl (by assumption))) | (apply pv_neq; (first | exact rfl | exact ev_sel rfl (by assumption))) | apply pv_min | apply pv_not | apply pv_extract | apply pv_func | apply pv_nil | (apply pf_index; exact rfl) | apply pf_index_s | exact pn_64of32 rfl rfl rfl (by assumption) | exact pn_32of rfl rfl rfl | exact pn_8of rfl rfl rfl | apply pf_conv | (apply pf_build; exact rfl) | exact pv_and2 (ev_sel rfl (by assumption)) rfl (by assumption) rfl | exact pv_or2 (ev_sel rfl (by assumption)) rfl (by assumption) rfl | exact pv_and' rfl rfl | exact pv_or' rfl rfl | (apply pv_seql; (first | exact rfl | exact ev_sel rfl (by assumption))) | (apply pv_sneq; (first | exact rfl | exact ev_sel rfl (by assumption))) | apply pf_build_a | (apply pf_index_a; exact rfl)) <;> (first | exact rfl | exact ev_sel rfl (by assumption) | assumption | exact hp.cell 0 rfl rfl | exact hp.cell 1 rfl rfl | exact hp.cell 2 rfl rfl | exact hp.cell 3 rfl rfl | exact hp.agg_blk 0 rfl rfl | exact hp.agg_blk 1 rfl rfl | exact hp.agg_blk 2 rfl rfl | exact hp.agg_blk 3 rfl rfl | exact hp.old0 (by assumption) | exact hp.cell 4 rfl rfl | exact hp.cell 5 rfl rfl | exact hp.cell 6 rfl rfl | exact hp.cell 7 rfl rfl | exact hp.agg_blk 4 rfl rfl | exact hp.agg_blk 5 rfl rfl | exact hp.agg_blk 6 rfl rfl | exact hp.agg_blk 7 rfl rfl))); (intros; (first | exact fI rfl | exact fB rfl | exact fP rfl | exact fS rfl | exact fT rfl | exact fF0 rfl | exact fF1 rfl | exact fF2 rfl | exact fF3 rfl | exact fF rfl | exact fA2 rfl | exact fA3 rfl | exact fA6 rfl | exact fA13 rfl | exact fM rfl | exact fU rfl | exact ev_sel rfl (by assumption) | exact fL rfl | exact rfl)))))
        (apply wlp; exact pv_add rfl rfl; exact int_eq (b := (q : Int)) (by rw [i64_in (by omega) (by omega)]; omega))
        (repeat (first | (with_reducible first | apply WP_seq | apply WP_block | apply WP_region | apply wpl_nil | apply thenQ_n | apply inBlk_n | apply thenQ_ret | apply inBlk_ret | apply thenQ_exit | apply WP_ret | apply WP_exit | apply WP_skip | apply WP_label | apply WP_scope | apply ngQ_n | apply ngQ_ret) | ((with_reducible apply inBlk_same); exact rfl) | ((with_reducible apply inBlk_other); exact rfl) | ((first | apply wlp | (apply wlg; exact rfl; exact rfl) | (apply wlg2; exact rfl; exact rfl)); (intros; ((first | apply pv_move | apply pv_assign | apply pf_field | (apply pf_load; exact rfl) | (apply pf_loadb; exact rfl) | (apply pf_len; exact rfl) | (apply pf_lens; exact rfl) | exact pv_andF rfl | exact pv_orT rfl | exact pv_andT rfl rfl | exact pv_orF rfl rfl | exact pv_and rfl rfl rfl | exact pv_or rfl rfl rfl | apply pv_lss | apply pv_leq | apply pv_gtr | apply pv_geq | (apply pv_eql; (first | exact rfl | exact ev_sel rfl (by assumption))) | (apply pv_neq; (first | exact rfl | exact ev_sel rfl (by assumption))) | apply pv_min | apply pv_not | apply pv_extract | apply pv_func | apply pv_nil | (apply pf_index; exact rfl) | apply pf_index_s | exact pn_64of32 rfl rfl rfl (by assumption) | exact pn_32of rfl rfl rfl | exact pn_8of rfl rfl rfl | apply pf_conv | (apply pf_build; exact rfl) | exact pv_and2 (ev_sel rfl (by assumption)) rfl (by assumption) rfl | exact pv_or2 (ev_sel rfl (by assumption)) rfl (by assumption) rfl | exact pv_and' rfl rfl | exact pv_or' rfl rfl | (apply pv_seql; (first | exact rfl | exact ev_sel rfl (by assumption))) | (apply pv_sneq; (first | exact rfl | exact ev_sel rfl (by assumption))) | apply pf_build_a | (apply pf_index_a; exact rfl)) <;> (first | exact rfl | exact ev_sel rfl (by assumption) | assumption | exact hp.cell 0 rfl rfl | exact hp.cell 1 rfl rfl | exact hp.cell 2 rfl rfl | exact hp.cell 3 rfl rfl | exact hp.agg_blk 0 rfl rfl | exact hp.agg_blk 1 rfl rfl | exact hp.agg_blk 2 rfl rfl | exact hp.agg_blk 3 rfl rfl | exact hp.old0 (by assumption) | exact hp.cell 4 rfl rfl | exact hp.cell 5 rfl rfl | exact hp.cell 6 rfl rfl | exact hp.cell 7 rfl rfl | exact hp.agg_blk 4 rfl rfl | exact hp.agg_blk 5 rfl rfl | exact hp.agg_blk 6 rfl rfl | exact hp.agg_blk 7 rfl rfl))); (intros; (first | exact fI rfl | exact fB rfl | exact fP rfl | exact fS rfl | exact fT rfl | exact fF0 rfl | exact fF1 rfl | exact fF2 rfl | exact fF3 rfl | exact fF rfl | exact fA2 rfl | exact fA3 rfl | exact fA6 rfl | exact fA13 rfl | exact fM rfl | exact fU rfl | exact ev_sel rfl (by assumption) | exact fL rfl | exact rfl)))))
        (apply wls; exact sf_slice hp rfl rfl rfl rfl rfl rfl rfl; rintro _ w3 ⟨nb, rfl, hp⟩)
        (apply wls; exact sf_app1 eD z q hp 1 0 rfl rfl rfl rfl rfl rfl (fun _ => rfl) rfl rfl rfl hv rfl rfl (by omega); rintro _ w4 ⟨s', c', rfl, hv', hp⟩)
        have hp := hp.tail
        (repeat (first | (with_reducible first | apply WP_seq | apply WP_block | apply WP_region | apply wpl_nil | apply thenQ_n | apply inBlk_n | apply thenQ_ret | apply inBlk_ret | apply thenQ_exit | apply WP_ret | apply WP_exit | apply WP_skip | apply WP_label | apply WP_scope | apply ngQ_n | apply ngQ_ret) | ((with_reducible apply inBlk_same); exact rfl) | ((with_reducible apply inBlk_other); exact rfl) | ((first | apply wlp | (apply wlg; exact rfl; exact rfl) | (apply wlg2; exact rfl; exact rfl)); (intros; ((first | apply pv_move | apply pv_assign | apply pf_field | (apply pf_load; exact rfl) | (apply pf_loadb; exact rfl) | (apply pf_len; exact rfl) | (apply pf_lens; exact rfl) | exact pv_andF rfl | exact pv_orT rfl | exact pv_andT rfl rfl | exact pv_orF rfl rfl | exact pv_and rfl rfl rfl | exact pv_or rfl rfl rfl | apply pv_lss | apply pv_leq | apply pv_gtr | apply pv_geq | (apply pv_eql; (first | exact rfl | exact ev_sel rfl (by assumption))) | (apply pv_neq; (first | exact rfl | exact ev_sel rfl (by assumption))) | apply pv_min | apply pv_not | apply pv_extract | apply pv_func | apply pv_nil | (apply pf_index; exact rfl) | apply pf_index_s | exact pn_64of32 rfl rfl rfl (by assumption) | exact pn_32of rfl rfl rfl | exact pn_8of rfl rfl rfl | apply pf_conv | (apply pf_build; exact rfl) | exact pv_and2 (ev_sel rfl (by assumption)) rfl (by assumption) rfl | exact pv_or2 (ev_sel rfl (by assumption)) rfl (by assumption) rfl | exact pv_and' rfl rfl | exact pv_or' rfl rfl | (apply pv_seql; (first | exact rfl | exact ev_sel rfl (by assumption))) | (apply pv_sneq; (first | exact rfl | exact ev_sel rfl (by assumption))) | apply pf_build_a | (apply pf_index_a; exact rfl)) <;> (first | exact rfl | exact ev_sel rfl (by assumption) | assumption | exact hp.cell 0 rfl rfl | exact hp.cell 1 rfl rfl | exact hp.cell 2 rfl rfl | exact hp.cell 3 rfl rfl | exact hp.agg_blk 0 rfl rfl | exact hp.agg_blk 1 rfl rfl | exact hp.agg_blk 2 rfl rfl | exact hp.agg_blk 3 rfl rfl | exact hp.old0 (by assumption) | exact hp.cell 4 rfl rfl | exact hp.cell 5 rfl rfl | exact hp.cell 6 rfl rfl | exact hp.cell 7 rfl rfl | exact hp.agg_blk 4 rfl rfl | exact hp.agg_blk 5 rfl rfl | exact hp.agg_blk 6 rfl rfl | exact hp.agg_blk 7 rfl rfl))); (intros; (first | exact fI rfl | exact fB rfl | exact fP rfl | exact fS rfl | exact fT rfl | exact fF0 rfl | exact fF1 rfl | exact fF2 rfl | exact fF3 rfl | exact fF rfl | exact fA2 rfl | exact fA3 rfl | exact fA6 rfl | exact fA13 rfl | exact fM rfl | exact fU rfl | exact ev_sel rfl (by assumption) | exact fL rfl | exact rfl)))))
        (apply wlp; exact pv_add rfl rfl; exact int_eq (i64_in (by omega) (by omega)))
        (repeat (first | (with_reducible first | apply WP_seq | apply WP_block | apply WP_region | apply wpl_nil | apply thenQ_n | apply inBlk_n | apply thenQ_ret | apply inBlk_ret | apply thenQ_exit | apply WP_ret | apply WP_exit | apply WP_skip | apply WP_label | apply WP_scope | apply ngQ_n | apply ngQ_ret) | ((with_reducible apply inBlk_same); exact rfl) | ((with_reducible apply inBlk_other); exact rfl) | ((first | apply wlp | (apply wlg; exact rfl; exact rfl) | (apply wlg2; exact rfl; exact rfl)); (intros; ((first | apply pv_move | apply pv_assign | apply pf_field | (apply pf_load; exact rfl) | (apply pf_loadb; exact rfl) | (apply pf_len; exact rfl) | (apply pf_lens; exact rfl) | exact pv_andF rfl | exact pv_orT rfl | exact pv_andT rfl rfl | exact pv_orF rfl rfl | exact pv_and rfl rfl rfl | exact pv_or rfl rfl rfl | apply pv_lss | apply pv_leq | apply pv_gtr | apply pv_geq | (apply pv_eql; (first | exact rfl | exact ev_sel rfl (by assumption))) | (apply pv_neq; (first | exact rfl | exact ev_sel rfl (by assumption))) | apply pv_min | apply pv_not | apply pv_extract | apply pv_func | apply pv_nil | (apply pf_index; exact rfl) | apply pf_index_s | exact pn_64of32 rfl rfl rfl (by assumption) | exact pn_32of rfl rfl rfl | exact pn_8of rfl rfl rfl | apply pf_conv | (apply pf_build; exact rfl) | exact pv_and2 (ev_sel rfl (by assumption)) rfl (by assumption) rfl | exact pv_or2 (ev_sel rfl (by assumption)) rfl (by assumption) rfl | exact pv_and' rfl rfl | exact pv_or' rfl rfl | (apply pv_seql; (first | exact rfl | exact ev_sel rfl (by assumption))) | (apply pv_sneq; (first | exact rfl | exact ev_sel rfl (by assumption))) | apply pf_build_a | (apply pf_index_a; exact rfl)) <;> (first | exact rfl | exact ev_sel rfl (by assumption) | assumption | exact hp.cell 0 rfl rfl | exact hp.cell 1 rfl rfl | exact hp.cell 2 rfl rfl | exact hp.cell 3 rfl rfl | exact hp.agg_blk 0 rfl rfl | exact hp.agg_blk 1 rfl rfl | exact hp.agg_blk 2 rfl rfl | exact hp.agg_blk 3 rfl rfl | exact hp.old0 (by assumption) | exact hp.cell 4 rfl rfl | exact hp.cell 5 rfl rfl | exact hp.cell 6 rfl rfl | exact hp.cell 7 rfl rfl | exact hp.agg_blk 4 rfl rfl | exact hp.agg_blk 5 rfl rfl | exact hp.agg_blk 6 rfl rfl | exact hp.agg_blk 7 rfl rfl))); (intros; (first | exact fI rfl | exact fB rfl | exact fP rfl | exact fS rfl | exact fT rfl | exact fF0 rfl | exact fF1 rfl | exact fF2 rfl | exact fF3 rfl | exact fF rfl | exact fA2 rfl | exact fA3 rfl | exact fA6 rfl | exact fA13 rfl | exact fM rfl | exact fU rfl | exact ev_sel rfl (by assumption) | exact fL rfl | exact rfl)))))
        refine ⟨i + 1, 1, z ++ [q], s', c', put_self (put_self (put_self (Same.eq (by repeat (first | exact Same.hav | exact Same.refl | refine Same.put rfl ?_ | refine Same.havs rfl ?_))) rfl) rfl) rfl, ⟨by omega, by simp [hzl], hzb.app (.cons (by omega) .nil), by omega, ?_, hv', hp⟩, by omega⟩
        rw [val_snoc, hzl]
        refine sub_step hval ?_
        rw [← hg, ← hgy]
        omega
      · obtain ⟨q, hq⟩ : ∃ q : Nat, (q : Int) = (dx : Int) - bo := ⟨((dx : Int) - bo).toNat, by omega⟩
        rw [← hq]
        (repeat (first | (with_reducible first | apply WP_seq | apply WP_block | apply WP_region | apply wpl_nil | apply thenQ_n | apply inBlk_n | apply thenQ_ret | apply inBlk_ret | apply thenQ_exit | apply WP_ret | apply WP_exit | apply WP_skip | apply WP_label | apply WP_scope | apply ngQ_n | apply ngQ_ret) | ((with_reducible apply inBlk_same); exact rfl) | ((with_reducible apply inBlk_other); exact rfl) | ((first | apply wlp | (apply wlg; exact rfl; exact rfl) | (apply wlg2; exact rfl; exact rfl)); (intros; ((first | apply pv_move | apply pv_assign | apply pf_field | (apply pf_load; exact rfl) | (apply pf_loadb; exact rfl) | (apply pf_len; exact rfl) | (apply pf_lens; exact rfl) | exact pv_andF rfl | exact pv_orT rfl | exact pv_andT rfl rfl | exact pv_orF rfl rfl | exact pv_and rfl rfl rfl | exact pv_or rfl rfl rfl | apply pv_lss | apply pv_leq | apply pv_gtr | apply pv_geq | (apply pv_eql; (first | exact rfl | exact ev_sel rfl (by assumption))) | (apply pv_neq; (first | exact rfl | exact ev_sel rfl (by assumption))) | apply pv_min | apply pv_not | apply pv_extract | apply pv_func | apply pv_nil | (apply pf_index; exact rfl) | apply pf_index_s | exact pn_64of32 rfl rfl rfl (by assumption) | exact pn_32of rfl rfl rfl | exact pn_8of rfl rfl rfl | apply pf_conv | (apply pf_build; exact rfl) | exact pv_and2 (ev_sel rfl (by assumption)) rfl (by assumption) rfl | exact pv_or2 (ev_sel rfl (by assumption)) rfl (by assumption) rfl | exact pv_and' rfl rfl | exact pv_or' rfl rfl | (apply pv_seql; (first | exact rfl | exact ev_sel rfl (by assumption))) | (apply pv_sneq; (first | exact rfl | exact ev_sel rfl (by assumption))) | apply pf_build_a | (apply pf_index_a; exact rfl)) <;> (first | exact rfl | exact ev_sel rfl (by assumption) | assumption | exact hp.cell 0 rfl rfl | exact hp.cell 1 rfl rfl | exact hp.cell 2 rfl rfl | exact hp.cell 3 rfl rfl | exact hp.agg_blk 0 rfl rfl | exact hp.agg_blk 1 rfl rfl | exact hp.agg_blk 2 rfl rfl | exact hp.agg_blk 3 rfl rfl | exact hp.old0 (by assumption) | exact hp.cell 4 rfl rfl | exact hp.cell 5 rfl rfl | exact hp.cell 6 rfl rfl | exact hp.cell 7 rfl rfl | exact hp.agg_blk 4 rfl rfl | exact hp.agg_blk 5 rfl rfl | exact hp.agg_blk 6 rfl rfl | exact hp.agg_blk 7 rfl rfl))); (intros; (first | exact fI rfl | exact fB rfl | exact fP rfl | exact fS rfl | exact fT rfl | exact fF0 rfl | exact fF1 rfl | exact fF2 rfl | exact fF3 rfl | exact fF rfl | exact fA2 rfl | exact fA3 rfl | exact fA6 rfl | exact fA13 rfl | exact fM rfl | exact fU rfl | exact ev_sel rfl (by assumption) | exact fL rfl | exact rfl)))))
        (apply wls; exact sf_slice hp rfl rfl rfl rfl rfl rfl rfl; rintro _ w3 ⟨nb, rfl, hp⟩)
        (apply wls; exact sf_app1 eD z q hp 1 0 rfl rfl rfl rfl rfl rfl (fun _ => rfl) rfl rfl rfl hv rfl rfl (by omega); rintro _ w4 ⟨s', c', rfl, hv', hp⟩)
        have hp := hp.tail
        (repeat (first | (with_reducible first | apply WP_seq | apply WP_block | apply WP_region | apply wpl_nil | apply thenQ_n | apply inBlk_n | apply thenQ_ret | apply inBlk_ret | apply thenQ_exit | apply WP_ret | apply WP_exit | apply WP_skip | apply WP_label | apply WP_scope | apply ngQ_n | apply ngQ_ret) | ((with_reducible apply inBlk_same); exact rfl) | ((with_reducible apply inBlk_other); exact rfl) | ((first | apply wlp | (apply wlg; exact rfl; exact rfl) | (apply wlg2; exact rfl; exact rfl)); (intros; ((first | apply pv_move | apply pv_assign | apply pf_field | (apply pf_load; exact rfl) | (apply pf_loadb; exact rfl) | (apply pf_len; exact rfl) | (apply pf_lens; exact rfl) | exact pv_andF rfl | exact pv_orT rfl | exact pv_andT rfl rfl | exact pv_orF rfl rfl | exact pv_and rfl rfl rfl | exact pv_or rfl rfl rfl | apply pv_lss | apply pv_leq | apply pv_gtr | apply pv_geq | (apply pv_eql; (first | exact rfl | exact ev_sel rfl (by assumption))) | (apply pv_neq; (first | exact rfl | exact ev_sel rfl (by assumption))) | apply pv_min | apply pv_not | apply pv_extract | apply pv_func | apply pv_nil | (apply pf_index; exact rfl) | apply pf_index_s | exact pn_64of32 rfl rfl rfl (by assumption) | exact pn_32of rfl rfl rfl | exact pn_8of rfl rfl rfl | apply pf_conv | (apply pf_build; exact rfl) | exact pv_and2 (ev_sel rfl (by assumption)) rfl (by assumption) rfl | exact pv_or2 (ev_sel rfl (by assumption)) rfl (by assumption) rfl | exact pv_and' rfl rfl | exact pv_or' rfl rfl | (apply pv_seql; (first | exact rfl | exact ev_sel rfl (by assumption))) | (apply pv_sneq; (first | exact rfl | exact ev_sel rfl (by assumption))) | apply pf_build_a | (apply pf_index_a; exact rfl)) <;> (first | exact rfl | exact ev_sel rfl (by assumption) | assumption | exact hp.cell 0 rfl rfl | exact hp.cell 1 rfl rfl | exact hp.cell 2 rfl rfl | exact hp.cell 3 rfl rfl | exact hp.agg_blk 0 rfl rfl | exact hp.agg_blk 1 rfl rfl | exact hp.agg_blk 2 rfl rfl | exact hp.agg_blk 3 rfl rfl | exact hp.old0 (by assumption) | exact hp.cell 4 rfl rfl | exact hp.cell 5 rfl rfl | exact hp.cell 6 rfl rfl | exact hp.cell 7 rfl rfl | exact hp.agg_blk 4 rfl rfl | exact hp.agg_blk 5 rfl rfl | exact hp.agg_blk 6 rfl rfl | exact hp.agg_blk 7 rfl rfl))); (intros; (first | exact fI rfl | exact fB rfl | exact fP rfl | exact fS rfl | exact fT rfl | exact fF0 rfl | exact fF1 rfl | exact fF2 rfl | exact fF3 rfl | exact fF rfl | exact fA2 rfl | exact fA3 rfl | exact fA6 rfl | exact fA13 rfl | exact fM rfl | exact fU rfl | exact ev_sel rfl (by assumption) | exact fL rfl | exact rfl)))))
        (apply wlp; exact pv_add rfl rfl; exact int_eq (i64_in (by omega) (by omega)))
        (repeat (first | (with_reducible first | apply WP_seq | apply WP_block | apply WP_region | apply wpl_nil | apply thenQ_n | apply inBlk_n | apply thenQ_ret | apply inBlk_ret | apply thenQ_exit | apply WP_ret | apply WP_exit | apply WP_skip | apply WP_label | apply WP_scope | apply ngQ_n | apply ngQ_ret) | ((with_reducible apply inBlk_same); exact rfl) | ((with_reducible apply inBlk_other); exact rfl) | ((first | apply wlp | (apply wlg; exact rfl; exact rfl) | (apply wlg2; exact rfl; exact rfl)); (intros; ((first | apply pv_move | apply pv_assign | apply pf_field | (apply pf_load; exact rfl) | (apply pf_loadb; exact rfl) | (apply pf_len; exact rfl) | (apply pf_lens; exact rfl) | exact pv_andF rfl | exact pv_orT rfl | exact pv_andT rfl rfl | exact pv_orF rfl rfl | exact pv_and rfl rfl rfl | exact pv_or rfl rfl rfl | apply pv_lss | apply pv_leq | apply pv_gtr | apply pv_geq | (apply pv_eql; (first | exact rfl | exact ev_sel rfl (by assumption))) | (apply pv_neq; (first | exact rfl | exact ev_sel rfl (by assumption))) | apply pv_min | apply pv_not | apply pv_extract | apply pv_func | apply pv_nil | (apply pf_index; exact rfl) | apply pf_index_s | exact pn_64of32 rfl rfl rfl (by assumption) | exact pn_32of rfl rfl rfl | exact pn_8of rfl rfl rfl | apply pf_conv | (apply pf_build; exact rfl) | exact pv_and2 (ev_sel rfl (by assumption)) rfl (by assumption) rfl | exact pv_or2 (ev_sel rfl (by assumption)) rfl (by assumption) rfl | exact pv_and' rfl rfl | exact pv_or' rfl rfl | (apply pv_seql; (first | exact rfl | exact ev_sel rfl (by assumption))) | (apply pv_sneq; (first | exact rfl | exact ev_sel rfl (by assumption))) | apply pf_build_a | (apply pf_index_a; exact rfl)) <;> (first | exact rfl | exact ev_sel rfl (by assumption) | assumption | exact hp.cell 0 rfl rfl | exact hp.cell 1 rfl rfl | exact hp.cell 2 rfl rfl | exact hp.cell 3 rfl rfl | exact hp.agg_blk 0 rfl rfl | exact hp.agg_blk 1 rfl rfl | exact hp.agg_blk 2 rfl rfl | exact hp.agg_blk 3 rfl rfl | exact hp.old0 (by assumption) | exact hp.cell 4 rfl rfl | exact hp.cell 5 rfl rfl | exact hp.cell 6 rfl rfl | exact hp.cell 7 rfl rfl | exact hp.agg_blk 4 rfl rfl | exact hp.agg_blk 5 rfl rfl | exact hp.agg_blk 6 rfl rfl | exact hp.agg_blk 7 rfl rfl))); (intros; (first | exact fI rfl | exact fB rfl | exact fP rfl | exact fS rfl | exact fT rfl | exact fF0 rfl | exact fF1 rfl | exact fF2 rfl | exact fF3 rfl | exact fF rfl | exact fA2 rfl | exact fA3 rfl | exact fA6 rfl | exact fA13 rfl | exact fM rfl | exact fU rfl | exact ev_sel rfl (by assumption) | exact fL rfl | exact rfl)))))
        refine ⟨i + 1, 0, z ++ [q], s', c', put_self (put_self (put_self (Same.eq (by repeat (first | exact Same.hav | exact Same.refl | refine Same.put rfl ?_ | refine Same.havs rfl ?_))) rfl) rfl) rfl, ⟨by omega, by simp [hzl], hzb.app (.cons (by omega) .nil), by omega, ?_, hv', hp⟩, by omega⟩
        rw [val_snoc, hzl]
        refine sub_step hval ?_
        rw [← hg, ← hgy]
        omega
  · obtain rfl : i = (d24 x).length := by omega
    have hV : val 16777216 z = x - y := by
      have hzlt := val_lt hzb
      rw [hzl] at hzlt
      exact sub_end hval (d24_lt (Nat.le_refl _)) hyx hzlt
    have hst : SlAt w2 1 eD st z := ownL_At hp 0 rfl hv (fun _ => rfl)
    have htz : trimL z = d24 (x - y) := by rw [trim_d24 hzb, hV]
    have h89 := c89 z st ct w2 hv.cap (by omega) hst
    rw [htz] at h89
    (repeat (first | (with_reducible first | apply WP_seq | apply WP_block | apply WP_region | apply wpl_nil | apply thenQ_n | apply inBlk_n | apply thenQ_ret | apply inBlk_ret | apply thenQ_exit | apply WP_ret | apply WP_exit | apply WP_skip | apply WP_label | apply WP_scope | apply ngQ_n | apply ngQ_ret) | ((with_reducible apply inBlk_same); exact rfl) | ((with_reducible apply inBlk_other); exact rfl) | ((first | apply wlp | (apply wlg; exact rfl; exact rfl) | (apply wlg2; exact rfl; exact rfl)); (intros; ((first | apply pv_move | apply pv_assign | apply pf_field | (apply pf_load; exact rfl) | (apply pf_loadb; exact rfl) | (apply pf_len; exact rfl) | (apply pf_lens; exact rfl) | exact pv_andF rfl | exact pv_orT rfl | exact pv_andT rfl rfl | exact pv_orF rfl rfl | exact pv_and rfl rfl rfl | exact pv_or rfl rfl rfl | apply pv_lss | apply pv_leq | apply pv_gtr | apply pv_geq | (apply pv_eql; (first | exact rfl | exact ev_sel rfl (by assumption))) | (apply pv_neq; (first | exact rfl | exact ev_sel rfl (by assumption))) | apply pv_min | apply pv_not | apply pv_extract | apply pv_func | apply pv_nil | (apply pf_index; exact rfl) | apply pf_index_s | exact pn_64of32 rfl rfl rfl (by assumption) | exact pn_32of rfl rfl rfl | exact pn_8of rfl rfl rfl | apply pf_conv | (apply pf_build; exact rfl) | exact pv_and2 (ev_sel rfl (by assumption)) rfl (by assumption) rfl | exact pv_or2 (ev_sel rfl (by assumption)) rfl (by assumption) rfl | exact pv_and' rfl rfl | exact pv_or' rfl rfl | (apply pv_seql; (first | exact rfl | exact ev_sel rfl (by assumption))) | (apply pv_sneq; (first | exact rfl | exact ev_sel rfl (by assumption))) | apply pf_build_a | (apply pf_index_a; exact rfl)) <;> (first | exact rfl | exact ev_sel rfl (by assumption) | assumption | exact hp.cell 0 rfl rfl | exact hp.cell 1 rfl rfl | exact hp.cell 2 rfl rfl | exact hp.cell 3 rfl rfl | exact hp.agg_blk 0 rfl rfl | exact hp.agg_blk 1 rfl rfl | exact hp.agg_blk 2 rfl rfl | exact hp.agg_blk 3 rfl rfl | exact hp.old0 (by assumption) | exact hp.cell 4 rfl rfl | exact hp.cell 5 rfl rfl | exact hp.cell 6 rfl rfl | exact hp.cell 7 rfl rfl | exact hp.agg_blk 4 rfl rfl | exact hp.agg_blk 5 rfl rfl | exact hp.agg_blk 6 rfl rfl | exact hp.agg_blk 7 rfl rfl))); (intros; (first | exact fI rfl | exact fB rfl | exact fP rfl | exact fS rfl | exact fT rfl | exact fF0 rfl | exact fF1 rfl | exact fF2 rfl | exact fF3 rfl | exact fF rfl | exact fA2 rfl | exact fA3 rfl | exact fA6 rfl | exact fA13 rfl | exact fM rfl | exact fU rfl | exact ev_sel rfl (by assumption) | exact fL rfl | exact rfl)))))
    (apply wls; exact st_call rfl ent89 rfl h89; rintro _ w3 ⟨rfl, hk⟩; have hp := hp.call hk)
    (repeat (first | (with_reducible first | apply WP_seq | apply WP_block | apply WP_region | apply wpl_nil | apply thenQ_n | apply inBlk_n | apply thenQ_ret | apply inBlk_ret | apply thenQ_exit | apply WP_ret | apply WP_exit | apply WP_skip | apply WP_label | apply WP_scope | apply ngQ_n | apply ngQ_ret) | ((with_reducible apply inBlk_same); exact rfl) | ((with_reducible apply inBlk_other); exact rfl) | ((first | apply wlp | (apply wlg; exact rfl; exact rfl) | (apply wlg2; exact rfl; exact rfl)); (intros; ((first | apply pv_move | apply pv_assign | apply pf_field | (apply pf_load; exact rfl) | (apply pf_loadb; exact rfl) | (apply pf_len; exact rfl) | (apply pf_lens; exact rfl) | exact pv_andF rfl | exact pv_orT rfl | exact pv_andT rfl rfl | exact pv_orF rfl rfl | exact pv_and rfl rfl rfl | exact pv_or rfl rfl rfl | apply pv_lss | apply pv_leq | apply pv_gtr | apply pv_geq | (apply pv_eql; (first | exact rfl | exact ev_sel rfl (by assumption))) | (apply pv_neq; (first | exact rfl | exact ev_sel rfl (by assumption))) | apply pv_min | apply pv_not | apply pv_extract | apply pv_func | apply pv_nil | (apply pf_index; exact rfl) | apply pf_index_s | exact pn_64of32 rfl rfl rfl (by assumption) | exact pn_32of rfl rfl rfl | exact pn_8of rfl rfl rfl | apply pf_conv | (apply pf_build; exact rfl) | exact pv_and2 (ev_sel rfl (by assumption)) rfl (by assumption) rfl | exact pv_or2 (ev_sel rfl (by assumption)) rfl (by assumption) rfl | exact pv_and' rfl rfl | exact pv_or' rfl rfl | (apply pv_seql; (first | exact rfl | exact ev_sel rfl (by assumption))) | (apply pv_sneq; (first | exact rfl | exact ev_sel rfl (by assumption))) | apply pf_build_a | (apply pf_index_a; exact rfl)) <;> (first | exact rfl | exact ev_sel rfl (by assumption) | assumption | exact hp.cell 0 rfl rfl | exact hp.cell 1 rfl rfl | exact hp.cell 2 rfl rfl | exact hp.cell 3 rfl rfl | exact hp.agg_blk 0 rfl rfl | exact hp.agg_blk 1 rfl rfl | exact hp.agg_blk 2 rfl rfl | exact hp.agg_blk 3 rfl rfl | exact hp.old0 (by assumption) | exact hp.cell 4 rfl rfl | exact hp.cell 5 rfl rfl | exact hp.cell 6 rfl rfl | exact hp.cell 7 rfl rfl | exact hp.agg_blk 4 rfl rfl | exact hp.agg_blk 5 rfl rfl | exact hp.agg_blk 6 rfl rfl | exact hp.agg_blk 7 rfl rfl))); (intros; (first | exact fI rfl | exact fB rfl | exact fP rfl | exact fS rfl | exact fT rfl | exact fF0 rfl | exact fF1 rfl | exact fF2 rfl | exact fF3 rfl | exact fF rfl | exact fA2 rfl | exact fA3 rfl | exact fA6 rfl | exact fA13 rfl | exact fM rfl | exact fU rfl | exact ev_sel rfl (by assumption) | exact fL rfl | exact rfl)))))
    exact ret_tmp rfl rfl ⟨_, rfl, st, ct, z, rfl, htz ▸ trimL_pre z, hv, hp⟩
theorem c73 (x y : Nat) (s s2 : Option Addr) (c c2 : Nat) (w : World) (hx : SlAt w 1 eD s (d24 x)) (hy : SlAt w 1 eD s2 (d24 y)) (hlx : (d24 x).length ≤ 100000) (hly : (d24 y).length ≤ 100000) (hyx : y ≤ x) :
    Ret Tryd.prog 73 [.slice s (d24 x).length c, .slice s2 (d24 y).length c2] w (fun v w' => ∃ s' c', v = .slice s' (d24 (x - y)).length c' ∧ (d24 (x - y)).length ≤ c' ∧ SlAt w' 1 eD s' (d24 (x - y)) ∧ Keeps [] w w') := by
  refine (c73o x y s s2 c c2 w hx hy hlx hly hyx).mono ?_
  rintro v w' ⟨s', c', z, rfl, hpre, hv, hp⟩
  exact ⟨s', c', rfl, Nat.le_trans hpre.length_le hv.cap, (ownL_At hp 0 rfl hv (fun _ => rfl)).pre hpre, hp.keeps⟩
theorem c51 (x y : Nat) (w : World) (hx : Fit x) (hy : Fit y) : Ret Tryd.prog 51 [.string (ofN x), .string (ofN y)] w (fun v w' => v = .tuple #[.string (ofN (x - y)), .bool (decide (y ≤ x))] ∧ Keeps [] w w') := by
  refine Ret.of_WP Tryd.func51 rfl Tryd.ntmps51 rfl ?_
  have hp := Hp.start (M := []) (w := w)
  (repeat (first | (with_reducible first | apply WP_seq | apply WP_block | apply WP_region | apply wpl_nil | apply thenQ_n | apply inBlk_n | apply thenQ_ret | apply inBlk_ret | apply thenQ_exit | apply WP_ret | apply WP_exit | apply WP_skip | apply WP_label | apply WP_scope | apply ngQ_n | apply ngQ_ret) | ((with_reducible apply inBlk_same); exact rfl) | ((with_reducible apply inBlk_other); exact rfl) | ((first | apply wlp | (apply wlg; exact rfl; exact rfl) | (apply wlg2; exact rfl; exact rfl)); (intros; ((first | apply pv_move | apply pv_assign | apply pf_field | (apply pf_load; exact rfl) | (apply pf_loadb; exact rfl) | (apply pf_len; exact rfl) | (apply pf_lens; exact rfl) | exact pv_andF rfl | exact pv_orT rfl | exact pv_andT rfl rfl | exact pv_orF rfl rfl | exact pv_and rfl rfl rfl | exact pv_or rfl rfl rfl | apply pv_lss | apply pv_leq | apply pv_gtr | apply pv_geq | (apply pv_eql; (first | exact rfl | exact ev_sel rfl (by assumption))) | (apply pv_neq; (first | exact rfl | exact ev_sel rfl (by assumption))) | apply pv_min | apply pv_not | apply pv_extract | apply pv_func | apply pv_nil | (apply pf_index; exact rfl) | apply pf_index_s | exact pn_64of32 rfl rfl rfl (by assumption) | exact pn_32of rfl rfl rfl | exact pn_8of rfl rfl rfl | apply pf_conv | (apply pf_build; exact rfl) | exact pv_and2 (ev_sel rfl (by assumption)) rfl (by assumption) rfl | exact pv_or2 (ev_sel rfl (by assumption)) rfl (by assumption) rfl | exact pv_and' rfl rfl | exact pv_or' rfl rfl | (apply pv_seql; (first | exact rfl | exact ev_sel rfl (by assumption))) | (apply pv_sneq; (first | exact rfl | exact ev_sel rfl (by assumption))) | apply pf_build_a | (apply pf_index_a; exact rfl)) <;> (first | exact rfl | exact ev_sel rfl (by assumption) | assumption | exact hp.cell 0 rfl rfl | exact hp.cell 1 rfl rfl | exact hp.cell 2 rfl rfl | exact hp.cell 3 rfl rfl | exact hp.agg_blk 0 rfl rfl | exact hp.agg_blk 1 rfl rfl | exact hp.agg_blk 2 rfl rfl | exact hp.agg_blk 3 rfl rfl | exact hp.old0 (by assumption) | exact hp.cell 4 rfl rfl | exact hp.cell 5 rfl rfl | exact hp.cell 6 rfl rfl | exact hp.cell 7 rfl rfl | exact hp.agg_blk 4 rfl rfl | exact hp.agg_blk 5 rfl rfl | exact hp.agg_blk 6 rfl rfl | exact hp.agg_blk 7 rfl rfl))); (intros; (first | exact fI rfl | exact fB rfl | exact fP rfl | exact fS rfl | exact fT rfl | exact fF0 rfl | exact fF1 rfl | exact fF2 rfl | exact fF3 rfl | exact fF rfl | exact fA2 rfl | exact fA3 rfl | exact fA6 rfl | exact fA13 rfl | exact fM rfl | exact fU rfl | exact ev_sel rfl (by assumption) | exact fL rfl | exact rfl)))))
  (apply wls; exact st_call rfl ent50 rfl (c50 x y _ hx hy); rintro _ w1 ⟨rfl, hk⟩; have hp := hp.call hk)
  by_cases hlt : x < y
  · rw [if_pos hlt]
    (repeat (first | (with_reducible first | apply WP_seq | apply WP_block | apply WP_region | apply wpl_nil | apply thenQ_n | apply inBlk_n | apply thenQ_ret | apply inBlk_ret | apply thenQ_exit | apply WP_ret | apply WP_exit | apply WP_skip | apply WP_label | apply WP_scope | apply ngQ_n | apply ngQ_ret) | ((with_reducible apply inBlk_same); exact rfl) | ((with_reducible apply inBlk_other); exact rfl) | ((first | apply wlp | (apply wlg; exact rfl; exact rfl) | (apply wlg2; exact rfl; exact rfl)); (intros; ((first | apply pv_move | apply pv_assign | apply pf_field | (apply pf_load; exact rfl) | (apply pf_loadb; exact rfl) | (apply pf_len; exact rfl) | (apply pf_lens; exact rfl) | exact pv_andF rfl | exact pv_orT rfl | exact pv_andT rfl rfl | exact pv_orF rfl rfl | exact pv_and rfl rfl rfl | exact pv_or rfl rfl rfl | apply pv_lss | apply pv_leq | apply pv_gtr | apply pv_geq | (apply pv_eql; (first | exact rfl | exact ev_sel rfl (by assumption))) | (apply pv_neq; (first | exact rfl | exact ev_sel rfl (by assumption))) | apply pv_min | apply pv_not | apply pv_extract | apply pv_func | apply pv_nil | (apply pf_index; exact rfl) | apply pf_index_s | exact pn_64of32 rfl rfl rfl (by assumption) | exact pn_32of rfl rfl rfl | exact pn_8of rfl rfl rfl | apply pf_conv | (apply pf_build; exact rfl) | exact pv_and2 (ev_sel rfl (by assumption)) rfl (by assumption) rfl | exact pv_or2 (ev_sel rfl (by assumption)) rfl (by assumption) rfl | exact pv_and' rfl rfl | exact pv_or' rfl rfl | (apply pv_seql; (first | exact rfl | exact ev_sel rfl (by assumption))) | (apply pv_sneq; (first | exact rfl | exact ev_sel rfl (by assumption))) | apply pf_build_a | (apply pf_index_a; exact rfl)) <;> (first | exact rfl | exact ev_sel rfl (by assumption) | assumption | exact hp.cell 0 rfl rfl | exact hp.cell 1 rfl rfl | exact hp.cell 2 rfl rfl | exact hp.cell 3 rfl rfl | exact hp.agg_blk 0 rfl rfl | exact hp.agg_blk 1 rfl rfl | exact hp.agg_blk 2 rfl rfl | exact hp.agg_blk 3 rfl rfl | exact hp.old0 (by assumption) | exact hp.cell 4 rfl rfl | exact hp.cell 5 rfl rfl | exact hp.cell 6 rfl rfl | exact hp.cell 7 rfl rfl | exact hp.agg_blk 4 rfl rfl | exact hp.agg_blk 5 rfl rfl | exact hp.agg_blk 6 rfl rfl | exact hp.agg_blk 7 rfl rfl))); (intros; (first | exact fI rfl | exact fB rfl | exact fP rfl | exact fS rfl | exact fT rfl | exact fF0 rfl | exact fF1 rfl | exact fF2 rfl | exact fF3 rfl | exact fF rfl | exact fA2 rfl | exact fA3 rfl | exact fA6 rfl | exact fA13 rfl | exact fM rfl | exact fU rfl | exact ev_sel rfl (by assumption) | exact fL rfl | exact rfl)))))
    refine WP_cond_t rfl ?_
    have e0 : x - y = 0 := by omega
    have e1 : decide (y ≤ x) = false := decide_eq_false (by omega)
    (repeat (first | (with_reducible first | apply WP_seq | apply WP_block | apply WP_region | apply wpl_nil | apply thenQ_n | apply inBlk_n | apply thenQ_ret | apply inBlk_ret | apply thenQ_exit | apply WP_ret | apply WP_exit | apply WP_skip | apply WP_label | apply WP_scope | apply ngQ_n | apply ngQ_ret) | ((with_reducible apply inBlk_same); exact rfl) | ((with_reducible apply inBlk_other); exact rfl) | ((first | apply wlp | (apply wlg; exact rfl; exact rfl) | (apply wlg2; exact rfl; exact rfl)); (intros; ((first | apply pv_move | apply pv_assign | apply pf_field | (apply pf_load; exact rfl) | (apply pf_loadb; exact rfl) | (apply pf_len; exact rfl) | (apply pf_lens; exact rfl) | exact pv_andF rfl | exact pv_orT rfl | exact pv_andT rfl rfl | exact pv_orF rfl rfl | exact pv_and rfl rfl rfl | exact pv_or rfl rfl rfl | apply pv_lss | apply pv_leq | apply pv_gtr | apply pv_geq | (apply pv_eql; (first | exact rfl | exact ev_sel rfl (by assumption))) | (apply pv_neq; (first | exact rfl | exact ev_sel rfl (by assumption))) | apply pv_min | apply pv_not | apply pv_extract | apply pv_func | apply pv_nil | (apply pf_index; exact rfl) | apply pf_index_s | exact pn_64of32 rfl rfl rfl (by assumption) | exact pn_32of rfl rfl rfl | exact pn_8of rfl rfl rfl | apply pf_conv | (apply pf_build; exact rfl) | exact pv_and2 (ev_sel rfl (by assumption)) rfl (by assumption) rfl | exact pv_or2 (ev_sel rfl (by assumption)) rfl (by assumption) rfl | exact pv_and' rfl rfl | exact pv_or' rfl rfl | (apply pv_seql; (first | exact rfl | exact ev_sel rfl (by assumption))) | (apply pv_sneq; (first | exact rfl | exact ev_sel rfl (by assumption))) | apply pf_build_a | (apply pf_index_a; exact rfl)) <;> (first | exact rfl | exact ev_sel rfl (by assumption) | assumption | exact hp.cell 0 rfl rfl | exact hp.cell 1 rfl rfl | exact hp.cell 2 rfl rfl | exact hp.cell 3 rfl rfl | exact hp.agg_blk 0 rfl rfl | exact hp.agg_blk 1 rfl rfl | exact hp.agg_blk 2 rfl rfl | exact hp.agg_blk 3 rfl rfl | exact hp.old0 (by assumption) | exact hp.cell 4 rfl rfl | exact hp.cell 5 rfl rfl | exact hp.cell 6 rfl rfl | exact hp.cell 7 rfl rfl | exact hp.agg_blk 4 rfl rfl | exact hp.agg_blk 5 rfl rfl | exact hp.agg_blk 6 rfl rfl | exact hp.agg_blk 7 rfl rfl))); (intros; (first | exact fI rfl | exact fB rfl | exact fP rfl | exact fS rfl | exact fT rfl | exact fF0 rfl | exact fF1 rfl | exact fF2 rfl | exact fF3 rfl | exact fF rfl | exact fA2 rfl | exact fA3 rfl | exact fA6 rfl | exact fA13 rfl | exact fM rfl | exact fU rfl | exact ev_sel rfl (by assumption) | exact fL rfl | exact rfl)))))
    exact ret_tmp2 rfl rfl rfl ⟨_, rfl, by rw [e0, e1]; rfl, hp.keeps⟩
  · (apply wlp; exact pv_lss rfl rfl; exact bool_eq (b := false) (decide_eq_false (by rw [if_neg hlt]; split <;> omega)))
    (repeat (first | (with_reducible first | apply WP_seq | apply WP_block | apply WP_region | apply wpl_nil | apply thenQ_n | apply inBlk_n | apply thenQ_ret | apply inBlk_ret | apply thenQ_exit | apply WP_ret | apply WP_exit | apply WP_skip | apply WP_label | apply WP_scope | apply ngQ_n | apply ngQ_ret) | ((with_reducible apply inBlk_same); exact rfl) | ((with_reducible apply inBlk_other); exact rfl) | ((first | apply wlp | (apply wlg; exact rfl; exact rfl) | (apply wlg2; exact rfl; exact rfl)); (intros; ((first | apply pv_move | apply pv_assign | apply pf_field | (apply pf_load; exact rfl) | (apply pf_loadb; exact rfl) | (apply pf_len; exact rfl) | (apply pf_lens; exact rfl) | exact pv_andF rfl | exact pv_orT rfl | exact pv_andT rfl rfl | exact pv_orF rfl rfl | exact pv_and rfl rfl rfl | exact pv_or rfl rfl rfl | apply pv_lss | apply pv_leq | apply pv_gtr | apply pv_geq | (apply pv_eql; (first | exact rfl | exact ev_sel rfl (by assumption))) | (apply pv_neq; (first | exact rfl | exact ev_sel rfl (by assumption))) | apply pv_min | apply pv_not | apply pv_extract | apply pv_func | apply pv_nil | (apply pf_index; exact rfl) | apply pf_index_s | exact pn_64of32 rfl rfl rfl (by assumption) | exact pn_32of rfl rfl rfl | exact pn_8of rfl rfl rfl | apply pf_conv | (apply pf_build; exact rfl) | exact pv_and2 (ev_sel rfl (by assumption)) rfl (by assumption) rfl | exact pv_or2 (ev_sel rfl (by assumption)) rfl (by assumption) rfl | exact pv_and' rfl rfl | exact pv_or' rfl rfl | (apply pv_seql; (first | exact rfl | exact ev_sel rfl (by assumption))) | (apply pv_sneq; (first | exact rfl | exact ev_sel rfl (by assumption))) | apply pf_build_a | (apply pf_index_a; exact rfl)) <;> (first | exact rfl | exact ev_sel rfl (by assumption) | assumption | exact hp.cell 0 rfl rfl | exact hp.cell 1 rfl rfl | exact hp.cell 2 rfl rfl | exact hp.cell 3 rfl rfl | exact hp.agg_blk 0 rfl rfl | exact hp.agg_blk 1 rfl rfl | exact hp.agg_blk 2 rfl rfl | exact hp.agg_blk 3 rfl rfl | exact hp.old0 (by assumption) | exact hp.cell 4 rfl rfl | exact hp.cell 5 rfl rfl | exact hp.cell 6 rfl rfl | exact hp.cell 7 rfl rfl | exact hp.agg_blk 4 rfl rfl | exact hp.agg_blk 5 rfl rfl | exact hp.agg_blk 6 rfl rfl | exact hp.agg_blk 7 rfl rfl))); (intros; (first | exact fI rfl | exact fB rfl | exact fP rfl | exact fS rfl | exact fT rfl | exact fF0 rfl | exact fF1 rfl | exact fF2 rfl | exact fF3 rfl | exact fF rfl | exact fA2 rfl | exact fA3 rfl | exact fA6 rfl | exact fA13 rfl | exact fM rfl | exact fU rfl | exact ev_sel rfl (by assumption) | exact fL rfl | exact rfl)))))
    refine WP_cond_f rfl ?_
    (repeat (first | (with_reducible first | apply WP_seq | apply WP_block | apply WP_region | apply wpl_nil | apply thenQ_n | apply inBlk_n | apply thenQ_ret | apply inBlk_ret | apply thenQ_exit | apply WP_ret | apply WP_exit | apply WP_skip | apply WP_label | apply WP_scope | apply ngQ_n | apply ngQ_ret) | ((with_reducible apply inBlk_same); exact rfl) | ((with_reducible apply inBlk_other); exact rfl) | ((first | apply wlp | (apply wlg; exact rfl; exact rfl) | (apply wlg2; exact rfl; exact rfl)); (intros; ((first | apply pv_move | apply pv_assign | apply pf_field | (apply pf_load; exact rfl) | (apply pf_loadb; exact rfl) | (apply pf_len; exact rfl) | (apply pf_lens; exact rfl) | exact pv_andF rfl | exact pv_orT rfl | exact pv_andT rfl rfl | exact pv_orF rfl rfl | exact pv_and rfl rfl rfl | exact pv_or rfl rfl rfl | apply pv_lss | apply pv_leq | apply pv_gtr | apply pv_geq | (apply pv_eql; (first | exact rfl | exact ev_sel rfl (by assumption))) | (apply pv_neq; (first | exact rfl | exact ev_sel rfl (by assumption))) | apply pv_min | apply pv_not | apply pv_extract | apply pv_func | apply pv_nil | (apply pf_index; exact rfl) | apply pf_index_s | exact pn_64of32 rfl rfl rfl (by assumption) | exact pn_32of rfl rfl rfl | exact pn_8of rfl rfl rfl | apply pf_conv | (apply pf_build; exact rfl) | exact pv_and2 (ev_sel rfl (by assumption)) rfl (by assumption) rfl | exact pv_or2 (ev_sel rfl (by assumption)) rfl (by assumption) rfl | exact pv_and' rfl rfl | exact pv_or' rfl rfl | (apply pv_seql; (first | exact rfl | exact ev_sel rfl (by assumption))) | (apply pv_sneq; (first | exact rfl | exact ev_sel rfl (by assumption))) | apply pf_build_a | (apply pf_index_a; exact rfl)) <;> (first | exact rfl | exact ev_sel rfl (by assumption) | assumption | exact hp.cell 0 rfl rfl | exact hp.cell 1 rfl rfl | exact hp.cell 2 rfl rfl | exact hp.cell 3 rfl rfl | exact hp.agg_blk 0 rfl rfl | exact hp.agg_blk 1 rfl rfl | exact hp.agg_blk 2 rfl rfl | exact hp.agg_blk 3 rfl rfl | exact hp.old0 (by assumption) | exact hp.cell 4 rfl rfl | exact hp.cell 5 rfl rfl | exact hp.cell 6 rfl rfl | exact hp.cell 7 rfl rfl | exact hp.agg_blk 4 rfl rfl | exact hp.agg_blk 5 rfl rfl | exact hp.agg_blk 6 rfl rfl | exact hp.agg_blk 7 rfl rfl))); (intros; (first | exact fI rfl | exact fB rfl | exact fP rfl | exact fS rfl | exact fT rfl | exact fF0 rfl | exact fF1 rfl | exact fF2 rfl | exact fF3 rfl | exact fF rfl | exact fA2 rfl | exact fA3 rfl | exact fA6 rfl | exact fA13 rfl | exact fM rfl | exact fU rfl | exact ev_sel rfl (by assumption) | exact fL rfl | exact rfl)))))
    (apply wls; exact st_call rfl ent69 rfl (c69 x _ hx); rintro _ w2 ⟨s, c, rfl, hv, hpo⟩)
    have hsx : SlAt w2 1 eD s (d24 x) := ownL_At hpo 0 rfl hv (fun _ => rfl)
    have hp := hp.call hpo.keeps
    clear hpo
    (repeat (first | (with_reducible first | apply WP_seq | apply WP_block | apply WP_region | apply wpl_nil | apply thenQ_n | apply inBlk_n | apply thenQ_ret | apply inBlk_ret | apply thenQ_exit | apply WP_ret | apply WP_exit | apply WP_skip | apply WP_label | apply WP_scope | apply ngQ_n | apply ngQ_ret) | ((with_reducible apply inBlk_same); exact rfl) | ((with_reducible apply inBlk_other); exact rfl) | ((first | apply wlp | (apply wlg; exact rfl; exact rfl) | (apply wlg2; exact rfl; exact rfl)); (intros; ((first | apply pv_move | apply pv_assign | apply pf_field | (apply pf_load; exact rfl) | (apply pf_loadb; exact rfl) | (apply pf_len; exact rfl) | (apply pf_lens; exact rfl) | exact pv_andF rfl | exact pv_orT rfl | exact pv_andT rfl rfl | exact pv_orF rfl rfl | exact pv_and rfl rfl rfl | exact pv_or rfl rfl rfl | apply pv_lss | apply pv_leq | apply pv_gtr | apply pv_geq | (apply pv_eql; (first | exact rfl | exact ev_sel rfl (by assumption))) | (apply pv_neq; (first | exact rfl | exact ev_sel rfl (by assumption))) | apply pv_min | apply pv_not | apply pv_extract | apply pv_func | apply pv_nil | (apply pf_index; exact rfl) | apply pf_index_s | exact pn_64of32 rfl rfl rfl (by assumption) | exact pn_32of rfl rfl rfl | exact pn_8of rfl rfl rfl | apply pf_conv | (apply pf_build; exact rfl) | exact pv_and2 (ev_sel rfl (by assumption)) rfl (by assumption) rfl | exact pv_or2 (ev_sel rfl (by assumption)) rfl (by assumption) rfl | exact pv_and' rfl rfl | exact pv_or' rfl rfl | (apply pv_seql; (first | exact rfl | exact ev_sel rfl (by assumption))) | (apply pv_sneq; (first | exact rfl | exact ev_sel rfl (by assumption))) | apply pf_build_a | (apply pf_index_a; exact rfl)) <;> (first | exact rfl | exact ev_sel rfl (by assumption) | assumption | exact hp.cell 0 rfl rfl | exact hp.cell 1 rfl rfl | exact hp.cell 2 rfl rfl | exact hp.cell 3 rfl rfl | exact hp.agg_blk 0 rfl rfl | exact hp.agg_blk 1 rfl rfl | exact hp.agg_blk 2 rfl rfl | exact hp.agg_blk 3 rfl rfl | exact hp.old0 (by assumption) | exact hp.cell 4 rfl rfl | exact hp.cell 5 rfl rfl | exact hp.cell 6 rfl rfl | exact hp.cell 7 rfl rfl | exact hp.agg_blk 4 rfl rfl | exact hp.agg_blk 5 rfl rfl | exact hp.agg_blk 6 rfl rfl | exact hp.agg_blk 7 rfl rfl))); (intros; (first | exact fI rfl | exact fB rfl | exact fP rfl | exact fS rfl | exact fT rfl | exact fF0 rfl | exact fF1 rfl | exact fF2 rfl | exact fF3 rfl | exact fF rfl | exact fA2 rfl | exact fA3 rfl | exact fA6 rfl | exact fA13 rfl | exact fM rfl | exact fU rfl | exact ev_sel rfl (by assumption) | exact fL rfl | exact rfl)))))
    (apply wls; exact st_call rfl ent69 rfl (c69 y _ hy); rintro _ w3 ⟨s2, c2, rfl, hv2, hpo⟩)
    have hsy : SlAt w3 1 eD s2 (d24 y) := ownL_At hpo 0 rfl hv2 (fun _ => rfl)
    have hsx := hsx.keep0 hpo.keeps
    have hp := hp.call hpo.keeps
    clear hpo
    (apply wls; exact st_call rfl ent73 rfl (c73 x y s s2 c c2 _ hsx hsy hx.d24 hy.d24 (by omega)); rintro _ w4 ⟨s3, c3, rfl, _, hs3, hk⟩; have hp := hp.call hk)
    have h70 := c70 (d24 (x - y)) s3 c3 w4 hs3 (d24_bd _) (hx.le (Nat.sub_le x y)).d24
    rw [d24_val] at h70
    (apply wls; exact st_call rfl ent70 rfl h70; rintro _ w5 ⟨rfl, hk⟩; have hp := hp.call hk)
    have e1 : decide (y ≤ x) = true := decide_eq_true (by omega)
    (repeat (first | (with_reducible first | apply WP_seq | apply WP_block | apply WP_region | apply wpl_nil | apply thenQ_n | apply inBlk_n | apply thenQ_ret | apply inBlk_ret | apply thenQ_exit | apply WP_ret | apply WP_exit | apply WP_skip | apply WP_label | apply WP_scope | apply ngQ_n | apply ngQ_ret) | ((with_reducible apply inBlk_same); exact rfl) | ((with_reducible apply inBlk_other); exact rfl) | ((first | apply wlp | (apply wlg; exact rfl; exact rfl) | (apply wlg2; exact rfl; exact rfl)); (intros; ((first | apply pv_move | apply pv_assign | apply pf_field | (apply pf_load; exact rfl) | (apply pf_loadb; exact rfl) | (apply pf_len; exact rfl) | (apply pf_lens; exact rfl) | exact pv_andF rfl | exact pv_orT rfl | exact pv_andT rfl rfl | exact pv_orF rfl rfl | exact pv_and rfl rfl rfl | exact pv_or rfl rfl rfl | apply pv_lss | apply pv_leq | apply pv_gtr | apply pv_geq | (apply pv_eql; (first | exact rfl | exact ev_sel rfl (by assumption))) | (apply pv_neq; (first | exact rfl | exact ev_sel rfl (by assumption))) | apply pv_min | apply pv_not | apply pv_extract | apply pv_func | apply pv_nil | (apply pf_index; exact rfl) | apply pf_index_s | exact pn_64of32 rfl rfl rfl (by assumption) | exact pn_32of rfl rfl rfl | exact pn_8of rfl rfl rfl | apply pf_conv | (apply pf_build; exact rfl) | exact pv_and2 (ev_sel rfl (by assumption)) rfl (by assumption) rfl | exact pv_or2 (ev_sel rfl (by assumption)) rfl (by assumption) rfl | exact pv_and' rfl rfl | exact pv_or' rfl rfl | (apply pv_seql; (first | exact rfl | exact ev_sel rfl (by assumption))) | (apply pv_sneq; (first | exact rfl | exact ev_sel rfl (by assumption))) | apply pf_build_a | (apply pf_index_a; exact rfl)) <;> (first | exact rfl | exact ev_sel rfl (by assumption) | assumption | exact hp.cell 0 rfl rfl | exact hp.cell 1 rfl rfl | exact hp.cell 2 rfl rfl | exact hp.cell 3 rfl rfl | exact hp.agg_blk 0 rfl rfl | exact hp.agg_blk 1 rfl rfl | exact hp.agg_blk 2 rfl rfl | exact hp.agg_blk 3 rfl rfl | exact hp.old0 (by assumption) | exact hp.cell 4 rfl rfl | exact hp.cell 5 rfl rfl | exact hp.cell 6 rfl rfl | exact hp.cell 7 rfl rfl | exact hp.agg_blk 4 rfl rfl | exact hp.agg_blk 5 rfl rfl | exact hp.agg_blk 6 rfl rfl | exact hp.agg_blk 7 rfl rfl))); (intros; (first | exact fI rfl | exact fB rfl | exact fP rfl | exact fS rfl | exact fT rfl | exact fF0 rfl | exact fF1 rfl | exact fF2 rfl | exact fF3 rfl | exact fF rfl | exact fA2 rfl | exact fA3 rfl | exact fA6 rfl | exact fA13 rfl | exact fM rfl | exact fU rfl | exact ev_sel rfl (by assumption) | exact fL rfl | exact rfl)))))
    exact ret_tmp2 rfl rfl rfl ⟨_, rfl, by rw [e1]; rfl, hp.keeps⟩
end Go.Proofs.YteklkjnhefnimaaDoor
/- Printed by gen_ge.py. sortesref01: Add, Mul; conditions: the numbers are short. -/
namespace Go.Proofs.YteklkjnhefnimaaDoor
open Go.Eng Go.Dig

theorem Fit.d24s {x : Nat} (h : Fit x) : (Go.Proofs.YteklkjnhefnimaaDoor.d24 x).length ≤ 4000 := by
  obtain ⟨k, h1, h2⟩ := h
  exact Nat.le_trans (d24_len (Nat.lt_of_lt_of_le h2 (Nat.pow_le_pow_left (by decide) k))) h1
theorem small7 {x b : Nat} (h : (digs 256 x).length ≤ b) (hb : b ≤ 7) : x < 72057594037927936 := by
  have h1 : x < 256 ^ 7 := lt_of_len (by decide) (Nat.le_trans h hb)
  rwa [show (256 : Nat) ^ 7 = 72057594037927936 from by decide] at h1
theorem small4 {x : Nat} (h : (digs 256 x).length ≤ 4) : x < 4294967296 := by
  have h1 : x < 256 ^ 4 := lt_of_len (by decide) h
  rwa [show (256 : Nat) ^ 4 = 4294967296 from by decide] at h1
theorem small3 {x : Nat} (h : (digs 256 x).length ≤ 3) : x < 16777216 := by
  have h1 : x < 256 ^ 3 := lt_of_len (by decide) h
  rwa [show (256 : Nat) ^ 3 = 16777216 from by decide] at h1
/-- no carry behind all digits -/
theorem carry_end {b x y M cy V : Nat} (hb : 2 ≤ b) (hx : x < b ^ M) (hy : y < b ^ M) (h : V + cy * b ^ (M + 1) = x % b ^ (M + 1) + y % b ^ (M + 1)) : cy = 0 := by
  have h1 := Nat.mod_le x (b ^ (M + 1))
  have h2 := Nat.mod_le y (b ^ (M + 1))
  rcases Nat.eq_zero_or_pos cy with h0 | h0
  · exact h0
  · have h3 : 1 * b ^ (M + 1) ≤ cy * b ^ (M + 1) := Nat.mul_le_mul_right _ h0
    have h4 : b ^ M * 2 ≤ b ^ (M + 1) := by rw [Nat.pow_succ]; exact Nat.mul_le_mul_left _ hb
    omega

attribute [local irreducible] PV StepF wpl wpd WP Ret
attribute [local irreducible] Fit RB

theorem c41 (x y : Nat) (w : World) (hx : Fit x) (hy : Fit y) : Ret Tryd.prog 41 [.string (ofN x), .string (ofN y)] w (fun v w' => v = .string (ofN (x + y)) ∧ Keeps [] w w') := by
  have hlx := hx.d24s
  have hly := hy.d24s
  refine Ret.of_WP Tryd.func41 rfl Tryd.ntmps41 rfl ?_
  have hp := Hp.start (M := []) (w := w)
  (repeat (first | (with_reducible first | apply WP_seq | apply WP_region | apply wpl_nil | apply thenQ_n) | (apply wlp; (first | apply pv_move | apply pv_assign); exact fT rfl)))
  (apply wls; exact st_call rfl ent68 rfl (c68 x 7 _ (by decide) hx); rintro _ w1 ⟨⟨q1, hq1, rfl⟩, hk⟩; have hp := hp.call hk)
  (repeat (first | (with_reducible first | apply WP_seq | apply WP_region | apply wpl_nil | apply thenQ_n) | (apply wlp; ((first | apply pv_move | apply pv_assign | apply pv_extract) <;> exact rfl); (first | exact fI rfl | exact fB rfl | exact fT rfl | exact fU rfl))))
  (apply wls; exact st_call rfl ent68 rfl (c68 y 7 _ (by decide) hy); rintro _ w2 ⟨⟨q2, hq2, rfl⟩, hk⟩; have hp := hp.call hk)
  (repeat (first | (with_reducible first | apply WP_seq | apply WP_region | apply wpl_nil | apply thenQ_n) | ((first | apply wlp | (apply wlg; exact rfl; exact rfl)); (intros; ((first | apply pv_move | apply pv_assign | exact pv_and rfl rfl rfl | apply pv_extract) <;> exact rfl)); (intros; (first | exact fI rfl | exact fB rfl | exact fU rfl)))))
  refine WP_cond rfl (fun h => ?_) (fun _ => ?_)
  · have hq : q1 = true ∧ q2 = true := by cases q1 <;> cases q2 <;> simp at h ⊢
    obtain ⟨rfl, rfl⟩ := hq
    have h1 := small7 (of_decide_eq_true hq1.symm) (by decide)
    have h2 := small7 (of_decide_eq_true hq2.symm) (by decide)
    (repeat (first | (with_reducible first | apply WP_seq | apply WP_region) | (apply wlp; apply pv_move; exact fI rfl)))
    (apply wlp; exact pv_add rfl rfl; exact int_eq (b := ((x + y : Nat) : Int)) (by rw [if_pos rfl, if_pos rfl, i64_in (by omega) (by omega)]; omega))
    (apply wls; exact st_call rfl ent40 rfl (c40 ((x + y : Nat) : Int) _ (by omega)); rintro _ w3 ⟨rfl, hk⟩; have hp := hp.call hk)
    rw [Int.toNat_natCast]
    (repeat (first | (with_reducible first | apply wpl_nil | apply thenQ_n | apply thenQ_ret | apply WP_ret) | (apply wlp; apply pv_assign; exact fT rfl)))
    exact ret_tmp rfl rfl ⟨_, rfl, rfl, hp.keeps⟩
  · (repeat (first | (with_reducible first | apply WP_seq | apply WP_region | apply thenQ_n | apply WP_skip) | (apply wlp; apply pv_move; exact fT rfl)))
    (apply wls; exact st_call rfl ent69 rfl (c69 x _ hx); rintro _ w3 ⟨s, c, rfl, hv1, hpo⟩)
    have hsx : SlAt w3 1 eD s (d24 x) := ownL_At hpo 0 rfl hv1 (fun _ => rfl)
    have hp := hp.call hpo.keeps
    clear hpo
    (repeat (first | (with_reducible first | apply WP_seq | apply WP_region | apply wpl_nil | apply thenQ_n) | (apply wlp; (first | apply pv_move | apply pv_assign); (first | exact fS rfl | exact fT rfl))))
    (apply wls; exact st_call rfl ent69 rfl (c69 y _ hy); rintro _ w4 ⟨s2, c2, rfl, hv2, hpo⟩)
    have hsy : SlAt w4 1 eD s2 (d24 y) := ownL_At hpo 0 rfl hv2 (fun _ => rfl)
    have hsx := hsx.keep0 hpo.keeps
    have hk0 := hp.keeps.trans hpo.keeps (by simp)
    clear hpo hp
    have hp := (Hp.start (M := []) (w := w4)).nilL eD 3 1
    obtain ⟨M, hM⟩ : ∃ M, M = max (d24 x).length (d24 y).length := ⟨_, rfl⟩
    (repeat (first | (with_reducible first | apply WP_seq | apply WP_block | apply WP_region | apply wpl_nil | apply thenQ_n) | (apply wlp; apply pv_assign; (first | exact fI rfl | exact fS rfl))))
    refine WP_loop5 [11, 12, 13, 14, 37, 38, 39, 40, 41, 42, 43, 44, 45, 46, 47, 48, 49, 50, 51, 52, 53, 54, 55, 56, 57, 58, 59, 60, 61, 62, 63, 64, 65, 66, 67, 68, 69, 70, 71, 72, 73, 74, 75, 76, 77, 78, 79, 80] (fun (k cy : Nat) (z : List Nat) (st : Option Addr) (ct : Nat) F => ((F.put 13 (.int .i64 (k : Int))).put 12 (.int .i64 (cy : Int))).put 11 (.slice st z.length ct))
      (fun k cy z st ct w' => k ≤ M + 1 ∧ z.length = k ∧ Bd 16777216 z ∧ cy < 2 ∧ val 16777216 z + cy * 16777216 ^ k = x % 16777216 ^ k + y % 16777216 ^ k ∧ SVL st ct z ∧ Hp w4 [] w' [ownL eD 3 1 st ct z])
      (fun k _ _ _ _ => M + 2 - k) 0 0 [] none 0 (put_self (put_self (put_self (Same.eq .refl) rfl) rfl) rfl) ⟨Nat.zero_le _, rfl, .nil, by decide, by simp [val, Nat.mod_one], SVL.nil, hp⟩ ?_
    clear hp
    rintro u k cy z st ct w5 ⟨hk, hzl, hzb, hcy, hval, hv, hp⟩
    have hxM : x < 16777216 ^ M := d24_lt (by omega)
    have hyM : y < 16777216 ^ M := d24_lt (by omega)
    (repeat (first | (with_reducible first | apply WP_seq | apply WP_region | apply wpl_nil | apply thenQ_n) | ((first | apply wlp | (apply wlg; exact rfl; exact rfl)); (intros; ((first | apply pv_move | (apply pf_len; exact rfl) | exact pv_or rfl rfl rfl | apply pv_lss | apply pv_gtr) <;> (first | exact rfl | exact ev_sel rfl (by assumption)))); (intros; (first | exact fI rfl | exact fB rfl | exact fS rfl)))))
    refine WP_cond rfl (fun h => ?_) (fun h => ?_)
    · have hkM : k ≤ M := by
        rcases Nat.lt_or_ge k (M + 1) with h1 | h1
        · omega
        · have e1 : k = M + 1 := by omega
          rw [e1] at hval
          have := carry_end (by decide) hxM hyM hval
          simp at h
          omega
      clear h
      obtain ⟨dx, hgx, hbx⟩ : ∃ dx, dx = x / 16777216 ^ k % 16777216 ∧ dx < 16777216 := ⟨_, rfl, Nat.mod_lt _ (by decide)⟩
      obtain ⟨dy, hgy, hby⟩ : ∃ dy, dy = y / 16777216 ^ k % 16777216 ∧ dy < 16777216 := ⟨_, rfl, Nat.mod_lt _ (by decide)⟩
      (repeat (first | (with_reducible first | apply WP_seq | apply WP_block | apply WP_region | apply wpl_nil | apply thenQ_n | apply WP_skip) | (apply wlp; ((first | apply pv_move | apply pv_assign | (apply pf_len; exact rfl) | apply pv_lss) <;> exact rfl); (first | exact fI rfl | exact fB rfl | exact fS rfl))))
      refine WP_cond_d rfl (fun h3 => ?_) (fun h3 => ?_)
      · have hltx : k < (d24 x).length := by omega
        obtain ⟨b0, o0, hs0, hc0⟩ := hsx.base (by omega)
        have hci := hc0 k _ (List.getElem?_eq_getElem hltx) 0 _ rfl
        rw [d24_get hltx, ← hgx] at hci
        have hci : w4.cell? ⟨b0, o0 + k * 1, none⟩ = some (.int .i64 (dx : Int)) := hci
        (repeat (first | with_reducible apply WP_region | (apply wlp; ((first | apply pv_move | (apply pf_load; exact rfl) | (apply pf_index; exact rfl)) <;> (first | exact rfl | assumption | exact hp.old0 (by assumption))); (first | exact fI rfl | exact fP rfl | exact fS rfl))))
        (apply wlp; (exact pv_add rfl rfl); exact int_eq (b := ((cy + dx : Nat) : Int)) (by rw [i64_in (by omega) (by omega)]; omega))
        (repeat (first | (with_reducible first | apply WP_seq | apply WP_region | apply wpl_nil | apply thenQ_n) | (apply wlp; ((first | apply pv_move | apply pv_assign | (apply pf_len; exact rfl) | apply pv_lss) <;> exact rfl); (first | exact fI rfl | exact fB rfl | exact fS rfl))))
        refine WP_cond_d rfl (fun h4 => ?_) (fun h4 => ?_)
        · have hlty : k < (d24 y).length := by omega
          obtain ⟨b1, o1, hs1, hc1⟩ := hsy.base (by omega)
          have hcj := hc1 k _ (List.getElem?_eq_getElem hlty) 0 _ rfl
          rw [d24_get hlty, ← hgy] at hcj
          have hcj : w4.cell? ⟨b1, o1 + k * 1, none⟩ = some (.int .i64 (dy : Int)) := hcj
          (repeat (first | with_reducible apply WP_region | (apply wlp; ((first | apply pv_move | (apply pf_load; exact rfl) | (apply pf_index; exact rfl)) <;> (first | exact rfl | assumption | exact hp.old0 (by assumption))); (first | exact fI rfl | exact fP rfl | exact fS rfl))))
          (apply wlp; (exact pv_add rfl rfl); exact int_eq (b := ((cy + dx + dy : Nat) : Int)) (by rw [i64_in (by omega) (by omega)]; omega))
          obtain ⟨S, hS⟩ : ∃ S, S = cy + dx + dy := ⟨_, rfl⟩
          rw [← hS]
          (repeat (first | (with_reducible first | apply WP_seq | apply WP_region | apply wpl_nil | apply thenQ_n) | (apply wlp; (first | apply pv_move | apply pv_assign); (first | exact fI rfl | exact fS rfl))))
          (apply wlp; exact pn_remI (b := 16777216) rfl rfl (by decide); exact fI rfl)
          (apply wls; exact sf_slice hp rfl rfl rfl rfl rfl rfl rfl; rintro _ w6 ⟨nb, rfl, hp⟩)
          (apply wls; exact sf_app1 eD z (S % 16777216) hp 1 0 rfl rfl rfl rfl rfl rfl (fun _ => rfl) rfl rfl rfl hv rfl rfl (by omega); rintro _ w7 ⟨s', c', rfl, hv', hp⟩)
          have hp := hp.tail
          (repeat (first | (with_reducible first | apply WP_region | apply wpl_nil | apply thenQ_n) | (apply wlp; (first | apply pv_move | apply pv_assign); (first | exact fI rfl | exact fS rfl))))
          (apply wlp; exact pn_quoI (b := 16777216) rfl rfl (by decide) (by omega); exact fI rfl)
          (repeat (first | (with_reducible first | apply WP_region | apply wpl_nil | apply thenQ_n | apply inBlk_n) | (apply wlp; (first | apply pv_move | apply pv_assign); exact fI rfl)))
          (apply wlp; exact pv_add rfl rfl; exact int_eq (i64_in (by omega) (by omega)))
          (repeat (first | (with_reducible first | apply wpl_nil | apply thenQ_n) | (apply wlp; apply pv_assign; exact fI rfl)))
          refine ⟨k + 1, S / 16777216, z ++ [S % 16777216], s', c', put_self (put_self (put_self (Same.eq (by repeat (first | exact Same.hav | exact Same.refl | refine Same.put rfl ?_ | refine Same.havs rfl ?_))) rfl) rfl) rfl, ⟨by omega, by simp [hzl], hzb.app (.cons (by omega) .nil), by omega, ?_, hv', hp⟩, by omega⟩
          rw [val_snoc, hzl]
          refine add_step hval ?_
          rw [← hgx, ← hgy]
          omega
        · have hdy : dy = 0 := by rw [hgy]; exact d24_beyond (by omega)
          obtain ⟨S, hS⟩ : ∃ S, S = cy + dx := ⟨_, rfl⟩
          rw [← hS]
          (repeat (first | (with_reducible first | apply WP_seq | apply WP_region | apply thenQ_n | apply WP_skip) | (apply wlp; apply pv_move; (first | exact fI rfl | exact fS rfl))))
          (apply wlp; exact pn_remI (b := 16777216) rfl rfl (by decide); exact fI rfl)
          (apply wls; exact sf_slice hp rfl rfl rfl rfl rfl rfl rfl; rintro _ w6 ⟨nb, rfl, hp⟩)
          (apply wls; exact sf_app1 eD z (S % 16777216) hp 1 0 rfl rfl rfl rfl rfl rfl (fun _ => rfl) rfl rfl rfl hv rfl rfl (by omega); rintro _ w7 ⟨s', c', rfl, hv', hp⟩)
          have hp := hp.tail
          (repeat (first | (with_reducible first | apply WP_region | apply wpl_nil | apply thenQ_n) | (apply wlp; (first | apply pv_move | apply pv_assign); (first | exact fI rfl | exact fS rfl))))
          (apply wlp; exact pn_quoI (b := 16777216) rfl rfl (by decide) (by omega); exact fI rfl)
          (repeat (first | (with_reducible first | apply WP_region | apply wpl_nil | apply thenQ_n | apply inBlk_n) | (apply wlp; (first | apply pv_move | apply pv_assign); exact fI rfl)))
          (apply wlp; exact pv_add rfl rfl; exact int_eq (i64_in (by omega) (by omega)))
          (repeat (first | (with_reducible first | apply wpl_nil | apply thenQ_n) | (apply wlp; apply pv_assign; exact fI rfl)))
          refine ⟨k + 1, S / 16777216, z ++ [S % 16777216], s', c', put_self (put_self (put_self (Same.eq (by repeat (first | exact Same.hav | exact Same.refl | refine Same.put rfl ?_ | refine Same.havs rfl ?_))) rfl) rfl) rfl, ⟨by omega, by simp [hzl], hzb.app (.cons (by omega) .nil), by omega, ?_, hv', hp⟩, by omega⟩
          rw [val_snoc, hzl]
          refine add_step hval ?_
          rw [← hgx, ← hgy]
          omega
      · have hdx : dx = 0 := by rw [hgx]; exact d24_beyond (by omega)
        (repeat (first | (with_reducible first | apply WP_seq | apply WP_region | apply wpl_nil | apply thenQ_n | apply WP_skip) | (apply wlp; ((first | apply pv_move | (apply pf_len; exact rfl) | apply pv_lss) <;> exact rfl); (first | exact fI rfl | exact fB rfl | exact fS rfl))))
        refine WP_cond_d rfl (fun h4 => ?_) (fun h4 => ?_)
        · have hlty : k < (d24 y).length := by omega
          obtain ⟨b1, o1, hs1, hc1⟩ := hsy.base (by omega)
          have hcj := hc1 k _ (List.getElem?_eq_getElem hlty) 0 _ rfl
          rw [d24_get hlty, ← hgy] at hcj
          have hcj : w4.cell? ⟨b1, o1 + k * 1, none⟩ = some (.int .i64 (dy : Int)) := hcj
          (repeat (first | with_reducible apply WP_region | (apply wlp; ((first | apply pv_move | (apply pf_load; exact rfl) | (apply pf_index; exact rfl)) <;> (first | exact rfl | assumption | exact hp.old0 (by assumption))); (first | exact fI rfl | exact fP rfl | exact fS rfl))))
          (apply wlp; (exact pv_add rfl rfl); exact int_eq (b := ((cy + dy : Nat) : Int)) (by rw [i64_in (by omega) (by omega)]; omega))
          obtain ⟨S, hS⟩ : ∃ S, S = cy + dy := ⟨_, rfl⟩
          rw [← hS]
          (repeat (first | (with_reducible first | apply WP_seq | apply WP_region | apply wpl_nil | apply thenQ_n) | (apply wlp; (first | apply pv_move | apply pv_assign); (first | exact fI rfl | exact fS rfl))))
          (apply wlp; exact pn_remI (b := 16777216) rfl rfl (by decide); exact fI rfl)
          (apply wls; exact sf_slice hp rfl rfl rfl rfl rfl rfl rfl; rintro _ w6 ⟨nb, rfl, hp⟩)
          (apply wls; exact sf_app1 eD z (S % 16777216) hp 1 0 rfl rfl rfl rfl rfl rfl (fun _ => rfl) rfl rfl rfl hv rfl rfl (by omega); rintro _ w7 ⟨s', c', rfl, hv', hp⟩)
          have hp := hp.tail
          (repeat (first | (with_reducible first | apply WP_region | apply wpl_nil | apply thenQ_n) | (apply wlp; (first | apply pv_move | apply pv_assign); (first | exact fI rfl | exact fS rfl))))
          (apply wlp; exact pn_quoI (b := 16777216) rfl rfl (by decide) (by omega); exact fI rfl)
          (repeat (first | (with_reducible first | apply WP_region | apply wpl_nil | apply thenQ_n | apply inBlk_n) | (apply wlp; (first | apply pv_move | apply pv_assign); exact fI rfl)))
          (apply wlp; exact pv_add rfl rfl; exact int_eq (i64_in (by omega) (by omega)))
          (repeat (first | (with_reducible first | apply wpl_nil | apply thenQ_n) | (apply wlp; apply pv_assign; exact fI rfl)))
          refine ⟨k + 1, S / 16777216, z ++ [S % 16777216], s', c', put_self (put_self (put_self (Same.eq (by repeat (first | exact Same.hav | exact Same.refl | refine Same.put rfl ?_ | refine Same.havs rfl ?_))) rfl) rfl) rfl, ⟨by omega, by simp [hzl], hzb.app (.cons (by omega) .nil), by omega, ?_, hv', hp⟩, by omega⟩
          rw [val_snoc, hzl]
          refine add_step hval ?_
          rw [← hgx, ← hgy]
          omega
        · have hdy : dy = 0 := by rw [hgy]; exact d24_beyond (by omega)
          obtain ⟨S, hS⟩ : ∃ S, S = cy := ⟨_, rfl⟩
          rw [← hS]
          (repeat (first | (with_reducible first | apply WP_seq | apply WP_region | apply thenQ_n | apply WP_skip) | (apply wlp; apply pv_move; (first | exact fI rfl | exact fS rfl))))
          (apply wlp; exact pn_remI (b := 16777216) rfl rfl (by decide); exact fI rfl)
          (apply wls; exact sf_slice hp rfl rfl rfl rfl rfl rfl rfl; rintro _ w6 ⟨nb, rfl, hp⟩)
          (apply wls; exact sf_app1 eD z (S % 16777216) hp 1 0 rfl rfl rfl rfl rfl rfl (fun _ => rfl) rfl rfl rfl hv rfl rfl (by omega); rintro _ w7 ⟨s', c', rfl, hv', hp⟩)
          have hp := hp.tail
          (repeat (first | (with_reducible first | apply WP_region | apply wpl_nil | apply thenQ_n) | (apply wlp; (first | apply pv_move | apply pv_assign); (first | exact fI rfl | exact fS rfl))))
          (apply wlp; exact pn_quoI (b := 16777216) rfl rfl (by decide) (by omega); exact fI rfl)
          (repeat (first | (with_reducible first | apply WP_region | apply wpl_nil | apply thenQ_n | apply inBlk_n) | (apply wlp; (first | apply pv_move | apply pv_assign); exact fI rfl)))
          (apply wlp; exact pv_add rfl rfl; exact int_eq (i64_in (by omega) (by omega)))
          (repeat (first | (with_reducible first | apply wpl_nil | apply thenQ_n) | (apply wlp; apply pv_assign; exact fI rfl)))
          refine ⟨k + 1, S / 16777216, z ++ [S % 16777216], s', c', put_self (put_self (put_self (Same.eq (by repeat (first | exact Same.hav | exact Same.refl | refine Same.put rfl ?_ | refine Same.havs rfl ?_))) rfl) rfl) rfl, ⟨by omega, by simp [hzl], hzb.app (.cons (by omega) .nil), by omega, ?_, hv', hp⟩, by omega⟩
          rw [val_snoc, hzl]
          refine add_step hval ?_
          rw [← hgx, ← hgy]
          omega
    · have hend : (d24 x).length ≤ k ∧ (d24 y).length ≤ k ∧ cy = 0 := by simp at h; omega
      obtain ⟨h1, h2, rfl⟩ := hend
      have hV : val 16777216 z = x + y := by
        rw [Nat.zero_mul, Nat.add_zero, Nat.mod_eq_of_lt (d24_lt h1), Nat.mod_eq_of_lt (d24_lt h2)] at hval
        exact hval
      have h70 := c70 z st ct w5 (ownL_At hp 0 rfl hv (fun _ => rfl)) hzb (by omega)
      rw [hV] at h70
      (repeat (first | (with_reducible first | apply WP_seq | apply WP_region | apply thenQ_n | apply thenQ_exit | apply WP_exit) | ((with_reducible apply inBlk_same); exact rfl) | (apply wlp; apply pv_move; exact fS rfl)))
      (apply wls; exact st_call rfl ent70 rfl h70; rintro _ w6 ⟨rfl, hk2⟩; have hp := hp.call hk2)
      (repeat (first | (with_reducible first | apply wpl_nil | apply thenQ_n | apply WP_ret) | (apply wlp; apply pv_assign; exact fT rfl)))
      exact ret_tmp rfl rfl ⟨_, rfl, rfl, hk0.trans hp.keeps (by simp)⟩
theorem c43 (x y : Nat) (w : World) (hx : Fit x) (hy : Fit y) : Ret Tryd.prog 43 [.string (ofN x), .string (ofN y)] w (fun v w' => v = .string (ofN (x * y)) ∧ Keeps [] w w') := by
  have hlx := hx.d24s
  have hly := hy.d24s
  refine Ret.of_WP Tryd.func43 rfl Tryd.ntmps43 rfl ?_
  have hp := Hp.start (M := []) (w := w)
  (repeat (first | (with_reducible first | apply WP_seq | apply WP_region | apply wpl_nil | apply thenQ_n) | (apply wlp; (first | apply pv_move | apply pv_assign); exact fT rfl)))
  (apply wls; exact st_call rfl ent68 rfl (c68 x 3 _ (by decide) hx); rintro _ w1 ⟨⟨q1, hq1, rfl⟩, hk⟩; have hp := hp.call hk)
  (repeat (first | (with_reducible first | apply WP_seq | apply WP_region | apply wpl_nil | apply thenQ_n) | (apply wlp; ((first | apply pv_move | apply pv_assign | apply pv_extract) <;> exact rfl); (first | exact fI rfl | exact fB rfl | exact fT rfl | exact fU rfl))))
  (apply wls; exact st_call rfl ent68 rfl (c68 y 4 _ (by decide) hy); rintro _ w2 ⟨⟨q2, hq2, rfl⟩, hk⟩; have hp := hp.call hk)
  (repeat (first | (with_reducible first | apply WP_seq | apply WP_region | apply wpl_nil | apply thenQ_n) | ((first | apply wlp | (apply wlg; exact rfl; exact rfl)); (intros; ((first | apply pv_move | apply pv_assign | exact pv_and rfl rfl rfl | apply pv_extract) <;> exact rfl)); (intros; (first | exact fI rfl | exact fB rfl | exact fU rfl)))))
  refine WP_cond rfl (fun h => ?_) (fun _ => ?_)
  · have hq : q1 = true ∧ q2 = true := by cases q1 <;> cases q2 <;> simp at h ⊢
    obtain ⟨rfl, rfl⟩ := hq
    have h1 := small3 (of_decide_eq_true hq1.symm)
    have h2 := small4 (of_decide_eq_true hq2.symm)
    have h3 : x * y ≤ 16777216 * 4294967296 := Nat.mul_le_mul (by omega) (by omega)
    (repeat (first | (with_reducible first | apply WP_seq | apply WP_region) | (apply wlp; apply pv_move; exact fI rfl)))
    (apply wlp; exact pv_mul rfl rfl; exact int_eq (b := ((x * y : Nat) : Int)) (by rw [if_pos rfl, if_pos rfl, ← Int.natCast_mul, i64_in (by omega) (by omega)]))
    (apply wls; exact st_call rfl ent40 rfl (c40 ((x * y : Nat) : Int) _ (by omega)); rintro _ w3 ⟨rfl, hk⟩; have hp := hp.call hk)
    rw [Int.toNat_natCast]
    (repeat (first | (with_reducible first | apply wpl_nil | apply thenQ_n | apply thenQ_ret | apply WP_ret) | (apply wlp; apply pv_assign; exact fT rfl)))
    exact ret_tmp rfl rfl ⟨_, rfl, rfl, hp.keeps⟩
  · (repeat (first | (with_reducible first | apply WP_seq | apply WP_region | apply thenQ_n | apply WP_skip) | (apply wlp; apply pv_move; exact fT rfl)))
    (apply wls; exact st_call rfl ent69 rfl (c69 x _ hx); rintro _ w3 ⟨s, c, rfl, hv1, hpo⟩)
    have hsx : SlAt w3 1 eD s (d24 x) := ownL_At hpo 0 rfl hv1 (fun _ => rfl)
    have hp := hp.call hpo.keeps
    clear hpo
    (repeat (first | (with_reducible first | apply WP_seq | apply WP_region | apply wpl_nil | apply thenQ_n) | (apply wlp; (first | apply pv_move | apply pv_assign); (first | exact fS rfl | exact fT rfl))))
    (apply wls; exact st_call rfl ent69 rfl (c69 y _ hy); rintro _ w4 ⟨s2, c2, rfl, hv2, hpo⟩)
    have hsy : SlAt w4 1 eD s2 (d24 y) := ownL_At hpo 0 rfl hv2 (fun _ => rfl)
    have hsx := hsx.keep0 hpo.keeps
    have hk0 := hp.keeps.trans hpo.keeps (by simp)
    clear hpo hp
    have hp := Hp.start (M := []) (w := w4)
    (repeat (first | (with_reducible first | apply WP_seq | apply WP_region | apply wpl_nil | apply thenQ_n) | (apply wlp; ((first | apply pv_move | apply pv_assign | (apply pf_len; exact rfl)) <;> exact rfl); (first | exact fI rfl | exact fS rfl))))
    (apply wlp; (exact pv_add rfl rfl); exact int_eq (b := (((d24 x).length + (d24 y).length : Nat) : Int)) (by rw [i64_in (by omega) (by omega)]; omega))
    (apply wls; exact sf_make eD 0 hp rfl rfl rfl rfl rfl rfl rfl (by omega) rfl; rintro _ w5 ⟨g, rfl, hv, hp⟩)
    (repeat (first | (with_reducible first | apply WP_seq | apply WP_block | apply WP_region | apply wpl_nil | apply thenQ_n) | (apply wlp; apply pv_assign; (first | exact fI rfl | exact fS rfl))))
    refine WP_loop2 [12, 13, 14, 15, 44, 45, 46, 47, 48, 49, 50, 51, 52, 53, 54, 55, 56, 57, 58, 59, 60, 61, 62, 63, 64, 65, 66, 67, 68, 69, 70, 71, 72, 73, 74, 75, 76, 77, 78, 79, 80, 81, 82, 83, 84, 85, 86, 87, 88, 89] (fun (i : Nat) (_z : List Nat) F => F.put 12 (.int .i64 (i : Int)))
      (fun i z w' => i ≤ (d24 x).length ∧ z.length = (d24 x).length + (d24 y).length ∧ Bd 16777216 z ∧ val 16777216 z = x % 16777216 ^ i * y ∧ SVL (some ⟨g, 0, none⟩) ((d24 x).length + (d24 y).length) z ∧ Hp w4 [] w' [ownL eD 3 1 (some ⟨g, 0, none⟩) ((d24 x).length + (d24 y).length) z])
      (fun i _ => (d24 x).length - i) 0 (List.replicate ((d24 x).length + (d24 y).length) 0) (put_self (Same.eq .refl) rfl) ⟨Nat.zero_le _, by simp, zeros_bd (by decide) _, by simp [val_zeros, Nat.mod_one], hv, hp⟩ ?_
    clear hp hv
    rintro u i z w6 ⟨hi, hzl, hzb, hval, hv, hp⟩
    (repeat (first | (with_reducible first | apply WP_seq | apply WP_region | apply wpl_nil | apply thenQ_n) | (apply wlp; ((first | apply pv_move | (apply pf_len; exact rfl) | apply pv_lss) <;> exact rfl); (first | exact fI rfl | exact fB rfl | exact fS rfl))))
    refine WP_cond_d rfl (fun h2 => ?_) (fun h2 => ?_)
    · have hlt : i < (d24 x).length := by omega
      obtain ⟨b0, o0, hs0, hc0⟩ := hsx.base (by omega)
      have hci := hc0 i _ (List.getElem?_eq_getElem hlt) 0 _ rfl
      have hbd := (d24_bd x).get hlt
      have hg := d24_get hlt
      generalize (d24 x)[i] = dx at hci hbd hg
      have hci : w4.cell? ⟨b0, o0 + i * 1, none⟩ = some (.int .i64 (dx : Int)) := hci
      have htop : z[i + (d24 y).length]? = some 0 := by
        have h1 : i + (d24 y).length < z.length := by omega
        rw [List.getElem?_eq_getElem h1]
        congr 1
        refine val_high (b := 16777216) (by decide) (k := i + (d24 y).length) ?_ h1 (Nat.le_refl _)
        rw [hval, Nat.pow_add]
        exact Nat.mul_lt_mul'' (Nat.mod_lt _ (Nat.pow_pos (by decide))) (d24_lt (Nat.le_refl _))
      (repeat (first | (with_reducible first | apply WP_seq | apply WP_block | apply WP_region | apply wpl_nil | apply thenQ_n | apply WP_skip) | (apply wlp; apply pv_assign; exact fI rfl)))
      refine WP_loop3 [13, 14, 15, 50, 51, 52, 53, 54, 55, 56, 57, 58, 59, 60, 61, 62, 63, 64, 65, 66, 67, 68, 69, 70, 71, 72, 73, 74, 75, 76, 77, 78, 79, 80, 81, 82] (fun (j cy : Nat) (_z : List Nat) F => (F.put 14 (.int .i64 (j : Int))).put 13 (.int .i64 (cy : Int)))
        (fun j cy z w' => j ≤ (d24 y).length ∧ z.length = (d24 x).length + (d24 y).length ∧ Bd 16777216 z ∧ cy < 16777216 ∧ val 16777216 z + cy * 16777216 ^ (i + j) = x % 16777216 ^ i * y + dx * (y % 16777216 ^ j) * 16777216 ^ i ∧ z[i + (d24 y).length]? = some 0 ∧ SVL (some ⟨g, 0, none⟩) ((d24 x).length + (d24 y).length) z ∧ Hp w4 [] w' [ownL eD 3 1 (some ⟨g, 0, none⟩) ((d24 x).length + (d24 y).length) z])
        (fun j _ _ => (d24 y).length - j) 0 0 z (put_self (put_self (Same.eq .refl) rfl) rfl) ⟨Nat.zero_le _, hzl, hzb, by omega, by simp [hval, Nat.mod_one], htop, hv, hp⟩ ?_
      clear hp hv hzl hzb hval htop z
      rintro u2 j cy z w7 ⟨hj, hzl, hzb, hcy, hval, htop, hv, hp⟩
      (repeat (first | (with_reducible first | apply WP_seq | apply WP_region | apply wpl_nil | apply thenQ_n) | (apply wlp; ((first | apply pv_move | (apply pf_len; exact rfl) | apply pv_lss) <;> exact rfl); (first | exact fI rfl | exact fB rfl | exact fS rfl))))
      refine WP_cond_d rfl (fun h3 => ?_) (fun h3 => ?_)
      · have hltj : j < (d24 y).length := by omega
        have hij : i + j < (d24 x).length + (d24 y).length := by omega
        have hijz : i + j < z.length := by omega
        obtain ⟨b1, o1, hs1, hc1⟩ := hsy.base (by omega)
        have hcj := hc1 j _ (List.getElem?_eq_getElem hltj) 0 _ rfl
        have hbd2 := (d24_bd y).get hltj
        have hg2 := d24_get hltj
        generalize (d24 y)[j] = dy at hcj hbd2 hg2
        have hcj : w4.cell? ⟨b1, o1 + j * 1, none⟩ = some (.int .i64 (dy : Int)) := hcj
        have hgz := List.getElem?_eq_getElem hijz
        have hzo := hzb.get hijz
        have hset := fun d => val_set 16777216 z (i + j) d hijz
        generalize z[i + j] = old at hgz hzo hset
        have hcz : w7.cell? ⟨g, 0 + (i + j) * 1, none⟩ = some (.int .i64 (old : Int)) := own_elem hp 0 rfl hv (fun _ => rfl) hgz 0 _ rfl
        have hfit := mul_fit hcy hbd hbd2 hzo
        obtain ⟨pr, hpr⟩ : ∃ pr, pr = dx * dy := ⟨_, rfl⟩
        rw [← hpr] at hfit
        (repeat (with_reducible first | apply WP_seq | apply WP_block | apply thenQ_n | apply WP_skip))
        have HP7 := hp
        refine WP_draw mixed (by kernel_rfl) (fun w' => Hp w7 [] w' []) Hp.start.drew ?_
        (apply wdp; exact rfl; (intro w hp; exact pv_move); exact fS rfl)
        (apply wdp; exact rfl; (intro w hp; exact pv_move); exact fI rfl)
        (apply wdp; exact rfl; (intro w hp; exact pv_move); exact fI rfl)
        (apply wdp; exact rfl; (intro w hp; exact pv_add rfl rfl); exact int_eq (b := ((i + j : Nat) : Int)) (by rw [i64_in (by omega) (by omega)]; omega))
        (apply wdp; exact rfl; (intro w hp; exact pf_index rfl rfl rfl rfl hij); exact fP rfl)
        (apply wdp; exact rfl; (intro w hp; exact pf_load rfl rfl (hp.old0 hcz)); exact fI rfl)
        (apply wdp; exact rfl; (intro w hp; exact pv_move); exact fS rfl)
        (apply wdp; exact rfl; (intro w hp; exact pv_move); exact fI rfl)
        (apply wdp; exact rfl; (intro w hp; exact pf_index rfl rfl rfl hs0 hlt); exact fP rfl)
        have hci7 := HP7.keeps.cell hci (by simp)
        (apply wdp; exact rfl; (intro w hp; exact pf_load rfl rfl (hp.old0 hci7)); exact fI rfl)
        (apply wdp; exact rfl; (intro w hp; exact pv_move); exact fS rfl)
        (apply wdp; exact rfl; (intro w hp; exact pv_move); exact fI rfl)
        (apply wdp; exact rfl; (intro w hp; exact pf_index rfl rfl rfl hs1 hltj); exact fP rfl)
        have hcj7 := HP7.keeps.cell hcj (by simp)
        (apply wdp; exact rfl; (intro w hp; exact pf_load rfl rfl (hp.old0 hcj7)); exact fI rfl)
        (apply wdp; exact rfl; (intro w hp; exact pv_mul rfl rfl); exact int_eq (b := (pr : Int)) (by rw [← Int.natCast_mul, ← hpr, i64_in (by omega) (by omega)]))
        (apply wdp; exact rfl; (intro w hp; exact pv_add rfl rfl); exact int_eq (b := ((old + pr : Nat) : Int)) (by rw [i64_in (by omega) (by omega)]; omega))
        (apply wdp; exact rfl; (intro w hp; exact pv_move); exact fI rfl)
        (apply wdp; exact rfl; (intro w hp; exact pv_add rfl rfl); exact int_eq (b := ((old + pr + cy : Nat) : Int)) (by rw [i64_in (by omega) (by omega)]; omega))
        obtain ⟨S, hS⟩ : ∃ S, S = old + pr + cy := ⟨_, rfl⟩
        rw [← hS]
        (repeat ((apply wdp; exact rfl); (intro w hp; intros; apply pv_assign); (intros; exact fI rfl)))
        refine wpd_nil ?_
        have hp := HP7.drew
        (repeat (first | (with_reducible first | apply WP_seq | apply WP_region | apply thenQ_n) | (apply wlp; apply pv_move; (first | exact fI rfl | exact fS rfl))))
        (apply wlp; (exact pv_add rfl rfl); exact int_eq (b := ((i + j : Nat) : Int)) (by rw [i64_in (by omega) (by omega)]; omega))
        (repeat (apply wlp; apply pv_move; exact fI rfl))
        (apply wlp; exact pn_remI (b := 16777216) rfl rfl (by decide); exact fI rfl)
        (repeat (apply wlp; ((apply pf_index; exact rfl) <;> (first | exact rfl | assumption)); exact fP rfl))
        (apply wls0; exact st_setL eD z (i + j) _ hp 0 rfl hv hijz rfl rfl (fun _ => rfl) rfl rfl (sizeTy_ok rfl); rintro _ w8 ⟨rfl, hp⟩)
        (repeat (first | (with_reducible first | apply WP_region | apply wpl_nil | apply thenQ_n) | (apply wlp; apply pv_move; exact fI rfl)))
        (apply wlp; exact pn_quoI (b := 16777216) rfl rfl (by decide) (by omega); exact fI rfl)
        (repeat (first | (with_reducible first | apply WP_region | apply wpl_nil | apply thenQ_n | apply inBlk_n) | (apply wlp; (first | apply pv_move | apply pv_assign); exact fI rfl)))
        (apply wlp; exact pv_add rfl rfl; exact int_eq (i64_in (by omega) (by omega)))
        (repeat (first | (with_reducible first | apply wpl_nil | apply thenQ_n) | (apply wlp; apply pv_assign; exact fI rfl)))
        refine ⟨j + 1, _, _, put_self (put_self (Same.eq (by repeat (first | exact Same.hav | exact Same.refl | refine Same.put rfl ?_ | refine Same.havs rfl ?_))) rfl) rfl, ⟨by omega, ?_, ?_, ?_, ?_, ?_, hv.set _ _, hp⟩, by omega⟩
        · rw [List.length_set, hzl]
        · exact hzb.set (by omega)
        · omega
        · exact mul_step hval (by rw [← hg2, ← hpr]; omega) (hset _)
        · rw [List.getElem?_set_ne (by omega)]
          exact htop
      · obtain rfl : j = (d24 y).length := by omega
        have hij : i + (d24 y).length < (d24 x).length + (d24 y).length := by omega
        have hijz : i + (d24 y).length < z.length := by omega
        (repeat (first | (with_reducible first | apply WP_region | apply thenQ_n | apply thenQ_exit | apply WP_exit) | ((with_reducible apply inBlk_same); exact rfl) | (apply wlp; ((first | apply pv_move | (apply pf_len; exact rfl)) <;> exact rfl); (first | exact fI rfl | exact fS rfl))))
        (apply wlp; (exact pv_add rfl rfl); exact int_eq (b := ((i + (d24 y).length : Nat) : Int)) (by rw [i64_in (by omega) (by omega)]; omega))
        (repeat (apply wlp; ((first | apply pv_move | (apply pf_index; exact rfl)) <;> (first | exact rfl | assumption)); (first | exact fI rfl | exact fP rfl)))
        (apply wls0; exact st_setL eD z (i + (d24 y).length) _ hp 0 rfl hv hijz rfl rfl (fun _ => rfl) rfl rfl (sizeTy_ok rfl); rintro _ w8 ⟨rfl, hp⟩)
        (repeat (first | (with_reducible first | apply WP_region | apply wpl_nil | apply thenQ_n | apply inBlk_n) | (apply wlp; apply pv_move; exact fI rfl)))
        (apply wlp; exact pv_add rfl rfl; exact int_eq (i64_in (by omega) (by omega)))
        (repeat (first | (with_reducible first | apply wpl_nil | apply thenQ_n) | (apply wlp; apply pv_assign; exact fI rfl)))
        refine ⟨i + 1, _, put_self (Same.eq (by repeat (first | exact Same.hav | exact Same.refl | refine Same.put rfl ?_ | refine Same.havs rfl ?_))) rfl, ⟨by omega, ?_, ?_, ?_, hv.set _ _, hp⟩, by omega⟩
        · rw [List.length_set, hzl]
        · exact hzb.set hcy
        · have h1 := val_set 16777216 z (i + (d24 y).length) cy hijz
          have h0 : z[i + (d24 y).length] = 0 := by
            rw [List.getElem?_eq_getElem hijz] at htop
            simpa using htop
          rw [h0, Nat.mul_zero, Nat.add_zero, Nat.mul_comm (16777216 ^ _) cy, hval, Nat.mod_eq_of_lt (d24_lt (Nat.le_refl (d24 y).length))] at h1
          rw [h1, mul_row, ← hg]
    · obtain rfl : i = (d24 x).length := by omega
      rw [Nat.mod_eq_of_lt (d24_lt (Nat.le_refl _))] at hval
      have h70 := c70 z (some ⟨g, 0, none⟩) ((d24 x).length + (d24 y).length) w6 (ownL_At hp 0 rfl hv (fun _ => rfl)) hzb (by omega)
      rw [hval, hzl] at h70
      (repeat (first | (with_reducible first | apply WP_seq | apply WP_region | apply thenQ_n | apply thenQ_exit | apply WP_exit) | ((with_reducible apply inBlk_same); exact rfl) | (apply wlp; apply pv_move; exact fS rfl)))
      (apply wls; exact st_call rfl ent70 rfl h70; rintro _ w7 ⟨rfl, hk2⟩; have hp := hp.call hk2)
      (repeat (first | (with_reducible first | apply wpl_nil | apply thenQ_n | apply WP_ret) | (apply wlp; apply pv_assign; exact fT rfl)))
      exact ret_tmp rfl rfl ⟨_, rfl, rfl, hk0.trans hp.keeps (by simp)⟩
end Go.Proofs.YteklkjnhefnimaaDoor
/- sortesref18: Choose, Factorial, IsSet, Rank, Unrank; conditions: at most 100 elements, or more than 1000; lists in memory. -/
namespace Go.Proofs.YteklkjnhefnimaaDoor
open Go.Eng Go.Dig

def eN (x : Nat) : List Value := [.string (ofN x)]

attribute [local irreducible] PV StepF wpl wpd WP Ret
attribute [local irreducible] Fit RB

theorem c14 (n k : Int) (w : World) (hn : n ≤ 100 ∨ n > 1000) : Ret Tryd.prog 14 [.int .i64 n, .int .i64 k] w (fun v w' => v = .string (ofN (chZ n k)) ∧ Keeps [] w w') := by
  refine Ret.of_WP Tryd.func14 rfl Tryd.ntmps14 rfl ?_
  have hp := Hp.start (M := []) (w := w)
  (repeat (first | (with_reducible first | apply WP_seq | apply WP_region | apply wpl_nil | apply thenQ_n) | ((first | apply wlp | (apply wlg; exact rfl; exact rfl)); (intros; ((first | apply pv_move | apply pv_assign | exact pv_or rfl rfl rfl | apply pv_lss | apply pv_gtr) <;> (first | exact rfl | exact ev_sel rfl (by assumption)))); (intros; (first | exact fI rfl | exact fB rfl | exact fT rfl)))))
  refine WP_cond rfl (fun h => ?_) (fun h => ?_)
  · have hz : chZ n k = 0 := chZ_zero (by simp at h; omega)
    (repeat (with_reducible first | apply WP_seq | apply WP_region))
    (apply wls; exact st_call rfl ent40 rfl (c40 0 _ (by decide)); rintro _ w1 ⟨rfl, hk⟩; have hp := hp.call hk)
    (repeat (first | (with_reducible first | apply wpl_nil | apply thenQ_n | apply thenQ_ret | apply WP_ret) | (apply wlp; apply pv_assign; exact fT rfl)))
    exact ret_tmp rfl rfl ⟨_, rfl, by rw [hz]; rfl, hp.keeps⟩
  · have h0 : 0 ≤ k ∧ k ≤ n ∧ n ≤ 100 := by simp at h; omega
    obtain ⟨N, rfl⟩ : ∃ N : Nat, n = N := ⟨n.toNat, by omega⟩
    obtain ⟨K, rfl⟩ : ∃ K : Nat, k = K := ⟨k.toNat, by omega⟩
    rw [chZ_nat (by omega)]
    clear h
    (repeat (first | (with_reducible first | apply WP_seq | apply WP_region | apply thenQ_n | apply WP_skip) | (apply wlp; apply pv_move; exact fI rfl)))
    (apply wlp; (exact pv_add rfl rfl); exact int_eq (b := ((K + 1 : Nat) : Int)) (by rw [i64_in (by omega) (by omega)]; omega))
    (apply wls; exact sf_make eN 0 hp rfl rfl rfl rfl rfl rfl rfl (by omega) rfl; rintro _ w1 ⟨g, rfl, hv, hp⟩)
    (repeat (first | (with_reducible first | apply WP_seq | apply WP_block | apply WP_region | apply wpl_nil | apply thenQ_n) | (apply wlp; apply pv_assign; (first | exact fI rfl | exact fS rfl))))
    refine WP_loopS [6, 28, 29, 30, 31, 32, 33, 34, 35, 36] (fun (j : Nat) F => F.put 6 (.int .i64 (j : Int))) (fun j w' => j ≤ K + 1 ∧ Hp w [] w' [ownL eN 23 1 (some ⟨g, 0, none⟩) (K + 1) (List.replicate (K + 1) 0)]) (fun j => K + 1 - j) 0 (put_self (Same.eq .refl) rfl) ⟨Nat.zero_le _, hp⟩ ?_
    clear hp
    rintro u j w2 ⟨hj, hp⟩
    (repeat (first | (with_reducible first | apply WP_seq | apply WP_region | apply wpl_nil | apply thenQ_n) | (apply wlp; ((first | apply pv_move | apply pv_leq) <;> exact rfl); (first | exact fI rfl | exact fB rfl))))
    refine WP_cond_d rfl (fun h2 => ?_) (fun h2 => ?_)
    · have hj1 : j < K + 1 := by omega
      have hrep : (List.replicate (K + 1) 0).set j 0 = List.replicate (K + 1) 0 := by
        apply List.ext_getElem?
        intro q
        rw [List.getElem?_set]
        by_cases hq : j = q
        · subst hq
          rw [if_pos rfl, if_pos (by simpa using hj1), List.getElem?_replicate, if_pos hj1]
        · rw [if_neg hq]
      (repeat (first | (with_reducible first | apply WP_seq | apply WP_block | apply WP_region | apply thenQ_n | apply WP_skip) | (apply wlp; apply pv_move; (first | exact fI rfl | exact fS rfl))))
      (apply wls; exact st_call rfl ent40 rfl (c40 0 _ (by decide)); rintro _ w3 ⟨rfl, hk⟩; have hp := hp.call hk)
      (repeat (apply wlp; ((apply pf_index; exact rfl) <;> (first | exact rfl | assumption)); exact fP rfl))
      (apply wls0; exact st_setL eN _ j 0 hp 0 rfl hv (by simpa using hj1) rfl rfl (fun _ => rfl) rfl rfl (sizeTy_ok rfl); rintro _ w4 ⟨rfl, hp⟩)
      rw [hrep] at hp
      (repeat (first | (with_reducible first | apply WP_region | apply wpl_nil | apply thenQ_n | apply inBlk_n) | (apply wlp; apply pv_move; exact fI rfl)))
      (apply wlp; exact pv_add rfl rfl; exact int_eq (i64_in (by omega) (by omega)))
      (repeat (first | (with_reducible first | apply wpl_nil | apply thenQ_n) | (apply wlp; apply pv_assign; exact fI rfl)))
      exact ⟨j + 1, put_self (Same.eq (by repeat (first | exact Same.hav | exact Same.refl | refine Same.put rfl ?_ | refine Same.havs rfl ?_))) rfl, ⟨by omega, hp⟩, by omega⟩
    · have h0K : 0 < K + 1 := by omega
      (repeat (first | (with_reducible first | apply WP_seq | apply WP_region | apply thenQ_n | apply thenQ_exit | apply WP_exit) | ((with_reducible apply inBlk_same); exact rfl) | (apply wlp; apply pv_move; exact fS rfl)))
      (apply wls; exact st_call rfl ent40 rfl (c40 1 _ (by decide)); rintro _ w3 ⟨rfl, hk⟩; have hp := hp.call hk)
      (apply wlp; exact pf_index (i := 0) rfl rfl rfl rfl h0K; exact fP rfl)
      (apply wls0; exact st_setL eN _ 0 1 hp 0 rfl hv (by simp) rfl rfl (fun _ => rfl) rfl rfl (sizeTy_ok rfl); rintro _ w4 ⟨rfl, hp⟩)
      have hv := hv.set 0 1
      (repeat (first | (with_reducible first | apply WP_seq | apply WP_block | apply WP_region | apply wpl_nil | apply thenQ_n) | (apply wlp; apply pv_assign; exact fI rfl)))
      refine WP_loop2 [7, 8, 40, 41, 42, 43, 44, 45, 46, 47, 48, 49, 50, 51, 52, 53, 54, 55, 56, 57, 58, 59, 60, 61, 62] (fun (i : Nat) (_z : List Nat) F => F.put 7 (.int .i64 (i : Int)))
        (fun i z w' => i ≤ N ∧ z.length = K + 1 ∧ (∀ q, q ≤ K → z[q]? = some (ch i q)) ∧ SVL (some ⟨g, 0, none⟩) (K + 1) z ∧ Hp w [] w' [ownL eN 23 1 (some ⟨g, 0, none⟩) (K + 1) z]) (fun i _ => N - i) 0 ((List.replicate (K + 1) 0).set 0 1) (put_self (Same.eq .refl) rfl) ⟨Nat.zero_le _, by simp, ?_, hv, hp⟩ ?_
      · intro q hq
        rw [List.getElem?_set]
        by_cases h0 : 0 = q
        · subst h0
          rw [if_pos rfl, if_pos (by simp)]
          rfl
        · rw [if_neg h0, List.getElem?_replicate, if_pos (by omega)]
          obtain ⟨q', rfl⟩ : ∃ q', q = q' + 1 := ⟨q - 1, by omega⟩
          rfl
      clear hp hv
      rintro u2 i z w5 ⟨hi, hzl, hz, hv, hp⟩
      (repeat (first | (with_reducible first | apply WP_seq | apply WP_region | apply wpl_nil | apply thenQ_n) | (apply wlp; ((first | apply pv_move | apply pv_lss) <;> exact rfl); (first | exact fI rfl | exact fB rfl))))
      refine WP_cond_d rfl (fun h3 => ?_) (fun h3 => ?_)
      · (repeat (first | (with_reducible first | apply WP_seq | apply WP_block | apply WP_region | apply wpl_nil | apply thenQ_n | apply WP_skip) | (apply wlp; (first | apply pv_move | apply pv_assign); exact fI rfl)))
        refine WP_loop2 [8, 46, 47, 48, 49, 50, 51, 52, 53, 54, 55, 56, 57, 58, 59, 60, 61, 62] (fun (j : Nat) (_z : List Nat) F => F.put 8 (.int .i64 (j : Int)))
          (fun j z w' => j ≤ K ∧ z.length = K + 1 ∧ (∀ q, q ≤ K → z[q]? = some (ch (if j < q then i + 1 else i) q)) ∧ SVL (some ⟨g, 0, none⟩) (K + 1) z ∧ Hp w [] w' [ownL eN 23 1 (some ⟨g, 0, none⟩) (K + 1) z]) (fun j _ => j) K z (put_self (Same.eq .refl) rfl) ⟨Nat.le_refl _, hzl, ?_, hv, hp⟩ ?_
        · intro q hq
          rw [if_neg (by omega)]
          exact hz q hq
        clear hp hv hz hzl
        rintro u3 j z w6 ⟨hj, hzl, hz, hv, hp⟩
        (repeat (first | (with_reducible first | apply WP_seq | apply WP_region | apply wpl_nil | apply thenQ_n) | (apply wlp; ((first | apply pv_move | apply pv_gtr) <;> exact rfl); (first | exact fI rfl | exact fB rfl))))
        refine WP_cond_d rfl (fun h4 => ?_) (fun h4 => ?_)
        · obtain ⟨m, rfl⟩ : ∃ m, j = m + 1 := ⟨j - 1, by omega⟩
          have hj1 : m + 1 < K + 1 := by omega
          have hm1 : m < K + 1 := by omega
          have hjz : m + 1 < z.length := by omega
          have hz1 := hz (m + 1) (by omega)
          have hz0 := hz m (by omega)
          rw [if_neg (by omega)] at hz1 hz0
          have hf1 : Fit (ch i (m + 1)) := ch_fit (by omega)
          have hf0 : Fit (ch i m) := ch_fit (by omega)
          (repeat (with_reducible first | apply WP_seq | apply WP_block | apply thenQ_n | apply WP_skip))
          refine WP_drawS mixed (by kernel_rfl) (fun w' => Hp w [] w' _) hp.drew ?_
          have hp := hp.drew
          (apply wdp; exact rfl; (intro w hp; exact pv_move); exact fS rfl)
          (apply wdp; exact rfl; (intro w hp; exact pv_move); exact fI rfl)
          (apply wdp; exact rfl; (intro w hp; exact pv_move); exact fS rfl)
          (apply wdp; exact rfl; (intro w hp; exact pv_move); exact fI rfl)
          (apply wdp; exact rfl; (intro w hp; exact pf_index rfl rfl rfl rfl hj1); exact fP rfl)
          (apply wdp; exact rfl; (intro w hp; exact pf_load rfl rfl (own_elem hp 0 rfl hv (fun _ => rfl) hz1 0 _ rfl)); exact fT rfl)
          (apply wdp; exact rfl; (intro w hp; exact pv_move); exact fS rfl)
          (apply wdp; exact rfl; (intro w hp; exact pv_move); exact fI rfl)
          (apply wdp; exact rfl; (intro w hp; exact pv_sub rfl rfl); exact int_eq (b := ((m : Nat) : Int)) (by rw [i64_in (by omega) (by omega)]; omega))
          (apply wdp; exact rfl; (intro w hp; exact pf_index rfl rfl rfl rfl hm1); exact fP rfl)
          (apply wdp; exact rfl; (intro w hp; exact pf_load rfl rfl (own_elem hp 0 rfl hv (fun _ => rfl) hz0 0 _ rfl)); exact fT rfl)
          (apply wds; exact rfl; exact st_call rfl ent41 rfl (c41 (ch i (m + 1)) (ch i m) _ hf1 hf0); rintro _ w7 ⟨rfl, hk⟩; have hp := hp.call hk; refine ⟨hp, ?_⟩)
          (apply wdp; exact rfl; (intro w hp; exact pf_index rfl rfl rfl rfl hj1); exact fP rfl)
          (apply wds0S; exact rfl; exact rfl; exact st_setL eN z (m + 1) _ hp 0 rfl hv hjz rfl rfl (fun _ => rfl) rfl rfl (sizeTy_ok rfl); rintro _ w8 ⟨rfl, hp⟩)
          refine wpd_nil ?_
          (repeat (first | (with_reducible first | apply WP_region | apply thenQ_n | apply inBlk_n) | (apply wlp; apply pv_move; exact fI rfl)))
          (apply wlp; exact pv_sub rfl rfl; exact int_eq (i64_in (by omega) (by omega)))
          (repeat (first | (with_reducible first | apply wpl_nil | apply thenQ_n) | (apply wlp; apply pv_assign; exact fI rfl)))
          refine ⟨m, _, put_self (Same.eq (by repeat (first | exact Same.hav | exact Same.refl | refine Same.put rfl ?_ | refine Same.havs rfl ?_))) (int_eq (by omega)), ⟨by omega, by rw [List.length_set, hzl], ?_, hv.set _ _, hp⟩, by omega⟩
          intro q hq
          rw [List.getElem?_set]
          by_cases hmq : m + 1 = q
          · subst hmq
            rw [if_pos rfl, if_pos hjz, if_pos (by omega), ch_pascal, Nat.add_comm]
          · rw [if_neg hmq, hz q hq]
            by_cases hq2 : m + 1 < q
            · rw [if_pos hq2, if_pos (by omega)]
            · rw [if_neg hq2, if_neg (by omega)]
        · obtain rfl : j = 0 := by omega
          (repeat (first | (with_reducible first | apply WP_region | apply thenQ_n | apply inBlk_n | apply thenQ_exit | apply WP_exit) | ((with_reducible apply inBlk_same); exact rfl) | (apply wlp; apply pv_move; exact fI rfl)))
          (apply wlp; exact pv_add rfl rfl; exact int_eq (i64_in (by omega) (by omega)))
          (repeat (first | (with_reducible first | apply wpl_nil | apply thenQ_n) | (apply wlp; apply pv_assign; exact fI rfl)))
          refine ⟨i + 1, z, put_self (Same.eq (by repeat (first | exact Same.hav | exact Same.refl | refine Same.put rfl ?_ | refine Same.havs rfl ?_))) rfl, ⟨by omega, hzl, ?_, hv, hp⟩, by omega⟩
          intro q hq
          have := hz q hq
          by_cases hq0 : 0 < q
          · rwa [if_pos hq0] at this
          · obtain rfl : q = 0 := by omega
            rw [if_neg hq0, ch_zero] at this
            rw [ch_zero]
            exact this
      · obtain rfl : i = N := by omega
        have hK1 : K < K + 1 := by omega
        have hzK := hz K (Nat.le_refl _)
        have hcz : w5.cell? ⟨g, 0 + K * 1, none⟩ = some (.string (ofN (ch i K))) := own_elem hp 0 rfl hv (fun _ => rfl) hzK 0 _ rfl
        (repeat (first | (with_reducible first | apply WP_seq | apply WP_region | apply wpl_nil | apply thenQ_n | apply thenQ_exit | apply WP_ret | apply WP_exit) | ((with_reducible apply inBlk_same); exact rfl) | (apply wlp; ((first | apply pv_move | apply pv_assign | (apply pf_load; exact rfl) | (apply pf_index; exact rfl)) <;> (first | exact rfl | assumption)); (first | exact fI rfl | exact fP rfl | exact fS rfl | exact fT rfl))))
        exact ret_tmp rfl rfl ⟨_, rfl, rfl, hp.keeps⟩
theorem c16 (n : Nat) (w : World) (hn : n ≤ 100) : Ret Tryd.prog 16 [.int .i64 (n : Int)] w (fun v w' => v = .string (ofN (fact n)) ∧ Keeps [] w w') := by
  refine Ret.of_WP Tryd.func16 rfl Tryd.ntmps16 rfl ?_
  have hp := Hp.start (M := []) (w := w)
  (repeat (first | (with_reducible first | apply WP_seq | apply WP_region | apply wpl_nil | apply thenQ_n) | ((first | apply wlp | (apply wlg; exact rfl; exact rfl)); (intros; ((first | apply pv_move | apply pv_assign | exact pv_orF rfl rfl | apply pv_lss | apply pv_gtr) <;> exact rfl)); (intros; (first | exact fI rfl | exact fB rfl | exact fT rfl)))))
  refine WP_cond rfl (fun h => ?_) (fun _ => ?_)
  · exfalso
    simp at h
    omega
  (repeat (with_reducible first | apply WP_seq | apply WP_region | apply thenQ_n | apply WP_skip))
  (apply wls; exact st_call rfl ent40 rfl (c40 1 _ (by decide)); rintro _ w1 ⟨rfl, hk⟩; have hp := hp.call hk)
  (repeat (first | (with_reducible first | apply WP_seq | apply WP_block | apply WP_region | apply wpl_nil | apply thenQ_n) | (apply wlp; apply pv_assign; (first | exact fI rfl | exact fT rfl))))
  refine WP_loopS [3, 4, 13, 14, 15, 16, 17, 18, 19, 20, 21] (fun (m : Nat) F => (F.put 4 (.int .i64 ((m : Int) + 2))).put 3 (.string (ofN (fact (m + 1))))) (fun m w' => (m + 1 ≤ n ∨ m = 0) ∧ Hp w [] w' []) (fun m => n - m) 0 (put_self (put_self (Same.eq .refl) rfl) rfl) ⟨.inr rfl, hp⟩ ?_
  clear hp
  rintro u m w2 ⟨hm, hp⟩
  (repeat (first | (with_reducible first | apply WP_seq | apply WP_region | apply wpl_nil | apply thenQ_n) | (apply wlp; ((first | apply pv_move | apply pv_leq) <;> exact rfl); (first | exact fI rfl | exact fB rfl))))
  refine WP_cond_d rfl (fun h => ?_) (fun h => ?_)
  · have hst : fact (m + 2) = fact (m + 1) * (m + 2) := by
      rw [show fact (m + 2) = (m + 2) * fact (m + 1) from rfl, Nat.mul_comm]
    (repeat (first | (with_reducible first | apply WP_seq | apply WP_block | apply WP_region | apply thenQ_n | apply WP_skip) | (apply wlp; apply pv_move; (first | exact fI rfl | exact fT rfl))))
    (apply wls; exact st_call rfl ent40 rfl (c40 ((m : Int) + 2) _ (by omega)); rintro _ w3 ⟨rfl, hk⟩; have hp := hp.call hk)
    rw [show ((m : Int) + 2).toNat = m + 2 from by omega]
    (apply wls; exact st_call rfl ent43 rfl (c43 (fact (m + 1)) (m + 2) _ (fact_fit (by omega)) (Fit.small (by omega))); rintro _ w4 ⟨rfl, hk⟩; have hp := hp.call hk)
    rw [← hst]
    (repeat (first | (with_reducible first | apply WP_region | apply wpl_nil | apply thenQ_n | apply inBlk_n) | (apply wlp; (first | apply pv_move | apply pv_assign); (first | exact fI rfl | exact fT rfl))))
    (apply wlp; exact pv_add rfl rfl; exact int_eq (i64_in (by omega) (by omega)))
    (repeat (first | (with_reducible first | apply wpl_nil | apply thenQ_n) | (apply wlp; apply pv_assign; exact fI rfl)))
    exact ⟨m + 1, put_self (put_self (Same.eq (by repeat (first | exact Same.hav | exact Same.refl | refine Same.put rfl ?_ | refine Same.havs rfl ?_))) (int_eq (by omega))) rfl, ⟨by omega, hp⟩, by omega⟩
  · have hfn : fact (m + 1) = fact n := by
      rcases hm with hm | hm
      · rw [show m + 1 = n from by omega]
      · subst hm
        have : n = 0 ∨ n = 1 := by omega
        rcases this with rfl | rfl <;> rfl
    rw [hfn]
    (repeat (first | (with_reducible first | apply WP_seq | apply WP_region | apply wpl_nil | apply thenQ_n | apply thenQ_exit | apply WP_ret | apply WP_exit) | ((with_reducible apply inBlk_same); exact rfl) | (apply wlp; (first | apply pv_move | apply pv_assign); exact fT rfl)))
    exact ret_tmp rfl rfl ⟨_, rfl, rfl, hp.keeps⟩
end Go.Proofs.YteklkjnhefnimaaDoor
/- How arrays of two or three numbers are read as arguments; conditions are the hypotheses of each law. -/
namespace Go.Proofs.YteklkjnhefnimaaDoor
open Go.Eng Go.ChangeShapes Go.WideShapes Go.ChangeAt Go.RowKit Go.Deep

theorem cellsc3 : Tryd.prog.cellsOf 3 = 1 := by kernel_rfl
section
variable {H : Type} {enc : TypeId × Value → H} {w : World} {base : Nat} {spare : Nat → Bool} {held : Bool} {n : Nat} {cs : List Value} {x : DataW H × List MemPlace}
def ec3 (x : Int × Int × Int) : List Value := [.int .i64 x.1, .int .i64 x.2.1, .int .i64 x.2.2]
theorem rdc_arr3 (h : DataW.trod enc Tryd.prog w base spare held n 29 cs = some x) : ∃ a : Int × Int × Int, cs = ec3 a ∧ True := by
  obtain ⟨l, hl, rfl, _⟩ := open_arr Tryd.underlying29 cellsc3 (by kernel_rfl) (fun _ _ _ h => rd_int h) h
  obtain ⟨a, b, c, rfl⟩ := len3 hl
  exact ⟨(a, b, c), rfl, trivial⟩
def ec2 (x : Int × Int) : List Value := [.int .i64 x.1, .int .i64 x.2]
theorem rdc_arr2 (h : DataW.trod enc Tryd.prog w base spare held n 68 cs = some x) : ∃ a : Int × Int, cs = ec2 a ∧ True := by
  obtain ⟨l, hl, rfl, _⟩ := open_arr Tryd.underlying68 cellsc3 (by kernel_rfl) (fun _ _ _ h => rd_int h) h
  obtain ⟨a, b, rfl⟩ := len2 hl
  exact ⟨(a, b), rfl, trivial⟩
end
end Go.Proofs.YteklkjnhefnimaaDoor
/- sortesref01: times, cmp, digit, Quo, Gcd, Right; conditions: the numbers are short. -/
namespace Go.Proofs.YteklkjnhefnimaaDoor
open Go.Eng Go.Dig

theorem times_step {b x d i c z c' V : Nat} (h : V + c * b ^ i = x % b ^ i * d) (hz : z + b * c' = x / b ^ i % b * d + c) : (V + b ^ i * z) + c' * b ^ (i + 1) = x % b ^ (i + 1) * d := by
  rw [mod_step, Nat.add_mul, ← h, Nat.mul_assoc, Nat.pow_succ]
  have e : b ^ i * (z + b * c') = b ^ i * (x / b ^ i % b * d + c) := by rw [hz]
  rw [Nat.mul_add, Nat.mul_add] at e
  have e2 : b ^ i * (b * c') = c' * (b ^ i * b) := by rw [Nat.mul_comm c', Nat.mul_assoc]
  have e3 : b ^ i * c = c * b ^ i := Nat.mul_comm _ _
  omega
theorem d24_lenT {x d : Nat} (hd : d < 16777216) : (d24 (x * d)).length ≤ (d24 x).length + 1 := by
  refine d24_len ?_
  rw [Nat.pow_succ]
  have h1 : x < 16777216 ^ (d24 x).length := d24_lt (Nat.le_refl _)
  by_cases h0 : d = 0
  · subst h0
    simp
    exact Nat.pow_pos (by decide)
  · exact Nat.mul_lt_mul_of_lt_of_le h1 (by omega) (by decide)
theorem cmp_eq {b x y n : Nat} (hb : 0 < b) (hx : x < b ^ n) (hy : y < b ^ n) (h : ∀ j, j < n → x / b ^ j % b = y / b ^ j % b) : x = y := by
  have h1 := cmp_top (b := b) (x := x) (y := y) (i := 0) (n := n) (fun j hj => by
    by_cases hjn : j < n
    · exact h j hjn
    · have e : ∀ z, z < b ^ n → z / b ^ j = 0 := fun z hz => Nat.div_eq_of_lt (Nat.lt_of_lt_of_le hz (Nat.pow_le_pow_right hb (by omega)))
      rw [e x hx, e y hy]) hb hx hy
  have h2 := div_step b x 0
  have h3 := div_step b y 0
  by_cases hn : 0 < n
  · have h4 := h 0 hn
    rw [Nat.pow_zero, Nat.div_one] at h2 h3 h4
    rw [Nat.div_one] at h4
    rw [h2, h3, h1, h4]
  · obtain rfl : n = 0 := by omega
    rw [Nat.pow_zero] at hx hy
    omega

attribute [local irreducible] PV StepF wpl wpd WP Ret
attribute [local irreducible] Fit

theorem c99 (x d : Nat) (s : Option Addr) (c : Nat) (w : World) (hx : SlAt w 1 eD s (d24 x)) (hlx : (d24 x).length ≤ 100000) (hd : d < 16777216) :
    Ret Tryd.prog 99 [.slice s (d24 x).length c, .int .i64 (d : Int)] w (fun v w' => ∃ s' c', v = .slice s' (d24 (x * d)).length c' ∧ (d24 (x * d)).length ≤ c' ∧ SlAt w' 1 eD s' (d24 (x * d)) ∧ Keeps [] w w') := by
  refine Ret.of_WP Tryd.func99 rfl Tryd.ntmps99 rfl ?_
  have hp := (Hp.start (M := []) (w := w)).nilL eD 3 1
  (repeat (first | (with_reducible first | apply WP_seq | apply WP_block | apply WP_region | apply wpl_nil | apply thenQ_n) | (apply wlp; apply pv_assign; (first | exact fI rfl | exact fS rfl))))
  refine WP_loop5 [5, 6, 7, 8, 9, 10, 11, 12, 13, 14, 15, 16, 17, 18, 19, 20, 21, 22, 23, 24, 25, 26, 27, 28, 29] (fun (i cy : Nat) (z : List Nat) (st : Option Addr) (ct : Nat) F => ((F.put 7 (.int .i64 (i : Int))).put 6 (.int .i64 (cy : Int))).put 5 (.slice st z.length ct))
    (fun i cy z st ct w' => i ≤ (d24 x).length ∧ z.length = i ∧ Bd 16777216 z ∧ cy < 16777216 ∧ val 16777216 z + cy * 16777216 ^ i = x % 16777216 ^ i * d ∧ SVL st ct z ∧ Hp w [] w' [ownL eD 3 1 st ct z])
    (fun i _ _ _ _ => (d24 x).length - i) 0 0 [] none 0 (put_self (put_self (put_self (Same.eq .refl) rfl) rfl) rfl) ⟨Nat.zero_le _, rfl, .nil, by decide, by simp [val, Nat.mod_one], SVL.nil, hp⟩ ?_
  clear hp
  rintro u i cy z st ct w2 ⟨hi, hzl, hzb, hcy, hval, hv, hp⟩
  (repeat (first | (with_reducible first | apply WP_seq | apply WP_region | apply wpl_nil | apply thenQ_n) | (apply wlp; ((first | apply pv_move | (apply pf_len; exact rfl) | apply pv_lss) <;> exact rfl); (first | exact fI rfl | exact fB rfl | exact fS rfl))))
  refine WP_cond_d rfl (fun h2 => ?_) (fun h2 => ?_)
  · have hlt : i < (d24 x).length := by omega
    obtain ⟨b0, o0, hs0, hc0⟩ := hx.base (by omega)
    have hci := hc0 i _ (List.getElem?_eq_getElem hlt) 0 _ rfl
    have hbd := (d24_bd x).get hlt
    have hg := d24_get hlt
    generalize (d24 x)[i] = dx at hci hbd hg
    have hci : w.cell? ⟨b0, o0 + i * 1, none⟩ = some (.int .i64 (dx : Int)) := hci
    have hm : dx * d ≤ 16777215 * 16777215 := Nat.mul_le_mul (by omega) (by omega)
    obtain ⟨q, hq⟩ : ∃ q, q = dx * d + cy := ⟨_, rfl⟩
    (repeat (first | (with_reducible first | apply WP_seq | apply WP_block | apply WP_region | apply thenQ_n | apply WP_skip) | (apply wlp; ((first | apply pv_move | (apply pf_load; exact rfl) | (apply pf_index; exact rfl)) <;> (first | exact rfl | assumption | exact hp.old0 (by assumption))); (first | exact fI rfl | exact fP rfl | exact fS rfl))))
    (apply wlp; exact pv_mul rfl rfl; exact int_eq (b := ((dx * d : Nat) : Int)) (by rw [← Int.natCast_mul, i64_in (by omega) (by omega)]))
    (apply wlp; apply pv_move; exact fI rfl)
    (apply wlp; exact pv_add rfl rfl; exact int_eq (b := (q : Int)) (by rw [i64_in (by omega) (by omega)]; omega))
    (repeat (first | (with_reducible first | apply WP_seq | apply WP_region | apply wpl_nil | apply thenQ_n) | (apply wlp; (first | apply pv_move | apply pv_assign); (first | exact fI rfl | exact fS rfl))))
    (apply wlp; exact pn_remI (b := 16777216) rfl rfl (by decide); exact fI rfl)
    (apply wls; exact sf_slice hp rfl rfl rfl rfl rfl rfl rfl; rintro _ w3 ⟨nb, rfl, hp⟩)
    (apply wls; exact sf_app1 eD z (q % 16777216) hp 1 0 rfl rfl rfl rfl rfl rfl (fun _ => rfl) rfl rfl rfl hv rfl rfl (by omega); rintro _ w4 ⟨s', c', rfl, hv', hp⟩)
    have hp := hp.tail
    (repeat (first | (with_reducible first | apply WP_region | apply wpl_nil | apply thenQ_n) | (apply wlp; (first | apply pv_move | apply pv_assign); (first | exact fI rfl | exact fS rfl))))
    (apply wlp; exact pn_quoI (b := 16777216) rfl rfl (by decide) (by omega); exact fI rfl)
    (repeat (first | (with_reducible first | apply WP_region | apply wpl_nil | apply thenQ_n | apply inBlk_n) | (apply wlp; (first | apply pv_move | apply pv_assign); exact fI rfl)))
    (apply wlp; exact pv_add rfl rfl; exact int_eq (i64_in (by omega) (by omega)))
    (repeat (first | (with_reducible first | apply wpl_nil | apply thenQ_n) | (apply wlp; apply pv_assign; exact fI rfl)))
    refine ⟨i + 1, q / 16777216, z ++ [q % 16777216], s', c', put_self (put_self (put_self (Same.eq (by repeat (first | exact Same.hav | exact Same.refl | refine Same.put rfl ?_ | refine Same.havs rfl ?_))) rfl) rfl) rfl, ⟨by omega, by simp [hzl], hzb.app (.cons (by omega) .nil), by omega, ?_, hv', hp⟩, by omega⟩
    rw [val_snoc, hzl]
    refine times_step hval ?_
    rw [← hg]
    omega
  · obtain rfl : i = (d24 x).length := by omega
    have hxl : x < 16777216 ^ (d24 x).length := d24_lt (Nat.le_refl _)
    rw [Nat.mod_eq_of_lt hxl] at hval
    (repeat (first | (with_reducible first | apply WP_seq | apply WP_region | apply thenQ_n | apply thenQ_exit | apply WP_exit) | ((with_reducible apply inBlk_same); exact rfl) | (apply wlp; apply pv_move; (first | exact fI rfl | exact fS rfl))))
    (apply wls; exact sf_slice hp rfl rfl rfl rfl rfl rfl rfl; rintro _ w3 ⟨nb, rfl, hp⟩)
    (apply wls; exact sf_app1 eD z cy hp 1 0 rfl rfl rfl rfl rfl rfl (fun _ => rfl) rfl rfl rfl hv rfl rfl (by omega); rintro _ w4 ⟨s', c', rfl, hv', hp⟩)
    have hp := hp.tail
    have hst : SlAt w4 1 eD s' (z ++ [cy]) := ownL_At hp 0 rfl hv' (fun _ => rfl)
    have hzb2 : Bd 16777216 (z ++ [cy]) := hzb.app (.cons hcy .nil)
    have hV : val 16777216 (z ++ [cy]) = x * d := by
      rw [val_snoc, hzl, ← hval, Nat.mul_comm cy]
    have htz : trimL (z ++ [cy]) = d24 (x * d) := by rw [trim_d24 hzb2, hV]
    have h89 := c89 (z ++ [cy]) s' c' w4 hv'.cap (by simp; omega) hst
    rw [htz] at h89
    (apply wls; exact st_call rfl ent89 rfl h89; rintro _ w5 ⟨rfl, hk⟩; have hp := hp.call hk)
    (repeat (first | (with_reducible first | apply wpl_nil | apply thenQ_n | apply WP_ret) | (apply wlp; apply pv_assign; exact fS rfl)))
    refine ret_tmp rfl rfl ⟨_, rfl, s', c', rfl, ?_, ?_, hp.keeps⟩
    · rw [← htz]
      exact Nat.le_trans (trimL_pre _).length_le hv'.cap
    · rw [← htz]
      exact (hst.pre (trimL_pre _)).keep0 hk

theorem c97 (x y : Nat) (s s2 : Option Addr) (c c2 : Nat) (w : World) (hx : SlAt w 1 eD s (d24 x)) (hy : SlAt w 1 eD s2 (d24 y)) (hlx : (d24 x).length ≤ 1000000) (hly : (d24 y).length ≤ 1000000) :
    Ret Tryd.prog 97 [.slice s (d24 x).length c, .slice s2 (d24 y).length c2] w (fun v w' => ∃ r : Int, v = .int .i64 r ∧ (0 ≤ r ↔ y ≤ x) ∧ (r ≤ 0 ↔ x ≤ y) ∧ Keeps [] w w') := by
  refine Ret.of_WP Tryd.func97 rfl Tryd.ntmps97 rfl ?_
  have hp := Hp.start (M := []) (w := w)
  (repeat (first | (with_reducible first | apply WP_seq | apply WP_region | apply wpl_nil | apply thenQ_n) | (apply wlp; ((first | apply pv_move | apply pv_assign | (apply pf_len; exact rfl) | (apply pv_neq; (first | exact rfl | exact ev_sel rfl (by assumption)))) <;> exact rfl); (first | exact fI rfl | exact fB rfl | exact fS rfl))))
  refine WP_cond_nd rfl (fun h => ?_) (fun h => ?_)
  · (repeat (first | (with_reducible first | apply WP_seq | apply WP_region) | (apply wlp; ((first | apply pv_move | (apply pf_len; exact rfl)) <;> exact rfl); (first | exact fI rfl | exact fS rfl))))
    (apply wlp; exact pv_sub rfl rfl; exact int_eq (i64_in (by omega) (by omega)))
    (repeat (first | (with_reducible first | apply wpl_nil | apply thenQ_n | apply thenQ_ret | apply WP_ret) | (apply wlp; apply pv_assign; exact fI rfl)))
    refine ret_tmp rfl rfl ⟨_, rfl, _, rfl, ?_, ?_, hp.keeps⟩
    all_goals
      rcases Nat.lt_or_ge (d24 x).length (d24 y).length with hl | hl
      · have := digs_len_lt (b := 16777216) (x := x) (y := y) (by decide) hl
        omega
      · have := digs_len_lt (b := 16777216) (x := y) (y := x) (by decide) (show (d24 y).length < (d24 x).length by omega)
        omega
  · have hle : (d24 x).length = (d24 y).length := by omega
    have hxl : x < 16777216 ^ (d24 x).length := d24_lt (Nat.le_refl _)
    have hyl : y < 16777216 ^ (d24 x).length := by rw [hle]; exact d24_lt (Nat.le_refl _)
    (repeat (first | (with_reducible first | apply WP_seq | apply WP_region | apply thenQ_n | apply WP_skip) | (apply wlp; ((first | apply pv_move | (apply pf_len; exact rfl)) <;> exact rfl); (first | exact fI rfl | exact fS rfl))))
    (apply wlp; exact pv_sub rfl rfl; exact int_eq (i64_in (by omega) (by omega)))
    (repeat (first | (with_reducible first | apply WP_block | apply wpl_nil | apply thenQ_n) | (apply wlp; apply pv_assign; exact fI rfl)))
    refine WP_loopS [4, 5, 19, 20, 21, 22, 23, 24, 25, 26, 27, 28, 29, 30, 31, 32, 33, 34, 35, 36, 37, 38, 39, 40] (fun (k : Nat) F => F.put 5 (.int .i64 ((k : Int) - 1))) (fun k w' => k ≤ (d24 x).length ∧ (∀ j, k ≤ j → j < (d24 x).length → x / 16777216 ^ j % 16777216 = y / 16777216 ^ j % 16777216) ∧ Hp w [] w' []) (fun k => k) (d24 x).length (put_self (Same.eq .refl) rfl) ⟨Nat.le_refl _, fun j h1 h2 => by omega, hp⟩ ?_
    clear hp
    rintro u k w1 ⟨hk, hall, hp⟩
    (repeat (first | (with_reducible first | apply WP_seq | apply WP_region | apply wpl_nil | apply thenQ_n) | (apply wlp; ((first | apply pv_move | apply pv_geq) <;> exact rfl); (first | exact fI rfl | exact fB rfl))))
    refine WP_cond_d rfl (fun h2 => ?_) (fun h2 => ?_)
    · obtain ⟨i, rfl⟩ : ∃ i, k = i + 1 := ⟨k - 1, by omega⟩
      rw [show (((i + 1 : Nat) : Int) - 1) = (i : Int) from by omega]
      have hlt : i < (d24 x).length := by omega
      have hlty : i < (d24 y).length := by omega
      obtain ⟨b0, o0, hs0, hc0⟩ := hx.base (by omega)
      obtain ⟨b1, o1, hs1, hc1⟩ := hy.base (by omega)
      have hci := hc0 i _ (List.getElem?_eq_getElem hlt) 0 _ rfl
      have hcj := hc1 i _ (List.getElem?_eq_getElem hlty) 0 _ rfl
      have hgx := d24_get hlt
      have hgy := d24_get hlty
      have hbx := (d24_bd x).get hlt
      have hby := (d24_bd y).get hlty
      generalize (d24 x)[i] = dx at hci hgx hbx
      generalize (d24 y)[i] = dy at hcj hgy hby
      have hci : w.cell? ⟨b0, o0 + i * 1, none⟩ = some (.int .i64 (dx : Int)) := hci
      have hcj : w.cell? ⟨b1, o1 + i * 1, none⟩ = some (.int .i64 (dy : Int)) := hcj
      have htop : x / 16777216 ^ (i + 1) = y / 16777216 ^ (i + 1) := cmp_top (n := (d24 x).length) (fun j hj => by
        by_cases hjn : j < (d24 x).length
        · exact hall j (by omega) hjn
        · rw [d24_beyond (by omega), d24_beyond (by omega)]) (by decide) hxl hyl
      (repeat (with_reducible first | apply WP_seq | apply WP_block | apply thenQ_n | apply WP_skip))
      refine WP_draw mixed (by kernel_rfl) (fun w' => Hp _ _ w' _) hp.drew ?_
      have hp := hp.drew
      (apply wdp; exact rfl; (intro w hp; exact pv_move); exact fS rfl)
      (apply wdp; exact rfl; (intro w hp; exact pv_move); exact fI rfl)
      (apply wdp; exact rfl; (intro w hp; exact pf_index rfl rfl rfl hs0 hlt); exact fP rfl)
      (apply wdp; exact rfl; (intro w hp; exact pf_load rfl rfl (hp.old0 hci)); exact fI rfl)
      (apply wdp; exact rfl; (intro w hp; exact pv_move); exact fS rfl)
      (apply wdp; exact rfl; (intro w hp; exact pv_move); exact fI rfl)
      (apply wdp; exact rfl; (intro w hp; exact pf_index rfl rfl rfl hs1 hlty); exact fP rfl)
      (apply wdp; exact rfl; (intro w hp; exact pf_load rfl rfl (hp.old0 hcj)); exact fI rfl)
      (repeat (first | ((apply wdp; exact rfl); (intro w hp; intros; ((apply pv_neq; (first | exact rfl | exact ev_sel rfl (by assumption))) <;> exact rfl)); (intros; exact fB rfl)) | (apply wdpF; exact rfl; exact rfl; exact rfl; exact rfl) | (apply wdpU; exact rfl; exact rfl; exact rfl)))
      refine wpd_nil ?_
      refine WP_cond_nd rfl (fun h3 => ?_) (fun h3 => ?_)
      · (repeat with_reducible apply WP_seq)
        refine WP_draw mixed (by kernel_rfl) (fun w' => Hp _ _ w' _) hp.drew ?_
        have hp := hp.drew
        (apply wdp; exact rfl; (intro w hp; exact pv_move); exact fS rfl)
        (apply wdp; exact rfl; (intro w hp; exact pv_move); exact fI rfl)
        (apply wdp; exact rfl; (intro w hp; exact pf_index rfl rfl rfl hs0 hlt); exact fP rfl)
        (apply wdp; exact rfl; (intro w hp; exact pf_load rfl rfl (hp.old0 hci)); exact fI rfl)
        (apply wdp; exact rfl; (intro w hp; exact pv_move); exact fS rfl)
        (apply wdp; exact rfl; (intro w hp; exact pv_move); exact fI rfl)
        (apply wdp; exact rfl; (intro w hp; exact pf_index rfl rfl rfl hs1 hlty); exact fP rfl)
        (apply wdp; exact rfl; (intro w hp; exact pf_load rfl rfl (hp.old0 hcj)); exact fI rfl)
        (apply wdp; exact rfl; (intro w hp; exact pv_sub rfl rfl); exact int_eq (i64_in (by omega) (by omega)))
        (repeat (first | ((apply wdp; exact rfl); (intro w hp; intros; apply pv_assign); (intros; exact fI rfl)) | (apply wdpF; exact rfl; exact rfl; exact rfl; exact rfl) | (apply wdpU; exact rfl; exact rfl; exact rfl)))
        refine wpd_nil ?_
        (repeat (with_reducible first | apply thenQ_n | apply thenQ_ret | apply inBlk_ret | apply WP_ret))
        refine ret_tmp rfl rfl ⟨_, rfl, _, rfl, ?_, ?_, hp.keeps⟩
        all_goals
          rcases Nat.lt_or_ge dx dy with hl | hl
          · have := lt_of_digit (b := 16777216) (x := x) (y := y) (i := i) (by decide) htop (by rw [← hgx, ← hgy]; exact hl)
            omega
          · have := lt_of_digit (b := 16777216) (x := y) (y := x) (i := i) (by decide) htop.symm (by rw [← hgx, ← hgy]; omega)
            omega
      · (repeat (first | (with_reducible first | apply WP_region | apply thenQ_n | apply inBlk_n | apply WP_skip) | (apply wlp; apply pv_move; exact fI rfl)))
        (apply wlp; exact pv_sub rfl rfl; exact int_eq (i64_in (by omega) (by omega)))
        (repeat (first | (with_reducible first | apply wpl_nil | apply thenQ_n) | (apply wlp; apply pv_assign; exact fI rfl)))
        refine ⟨i, put_self (Same.eq (by repeat (first | exact Same.hav | exact Same.refl | refine Same.put rfl ?_ | refine Same.havs rfl ?_))) rfl, ⟨by omega, fun j h4 h5 => ?_, hp⟩, by omega⟩
        by_cases hj : j = i
        · subst hj
          rw [← hgx, ← hgy]
          omega
        · exact hall j (by omega) h5
    · obtain rfl : k = 0 := by omega
      have hxy : x = y := cmp_eq (by decide) hxl hyl (fun j hj => hall j (Nat.zero_le _) hj)
      (repeat (first | (with_reducible first | apply WP_seq | apply WP_region | apply wpl_nil | apply thenQ_n | apply thenQ_exit | apply WP_ret | apply WP_exit) | ((with_reducible apply inBlk_same); exact rfl) | (apply wlp; apply pv_assign; exact fI rfl)))
      exact ret_tmp rfl rfl ⟨_, rfl, 0, rfl, by omega, by omega, hp.keeps⟩

theorem c98 (x y : Nat) (s s2 : Option Addr) (c c2 : Nat) (w : World) (hx : SlAt w 1 eD s (d24 x)) (hy : SlAt w 1 eD s2 (d24 y)) (hlx : (d24 x).length ≤ 100000) (hly : (d24 y).length ≤ 100000) (hy0 : 0 < y) (hq : x / y < 16777216) :
    Ret Tryd.prog 98 [.slice s (d24 x).length c, .slice s2 (d24 y).length c2] w (fun v w' => v = .int .i64 ((x / y : Nat) : Int) ∧ Keeps [] w w') := by
  refine Ret.of_WP Tryd.func98 rfl Tryd.ntmps98 rfl ?_
  have hp := Hp.start (M := []) (w := w)
  (repeat (first | (with_reducible first | apply WP_seq | apply WP_block | apply WP_region | apply wpl_nil | apply thenQ_n) | (apply wlp; apply pv_assign; exact fI rfl)))
  refine WP_loop2 [5, 6, 7, 8, 9, 10, 11, 12, 13, 14, 15, 16, 17, 18, 19, 20, 21, 22, 23, 24] (fun (lo hi : Nat) F => (F.put 5 (.int .i64 (lo : Int))).put 6 (.int .i64 (hi : Int))) (fun lo hi w' => lo ≤ x / y ∧ x / y ≤ hi ∧ hi ≤ 16777215 ∧ Hp w [] w' []) (fun lo hi => hi - lo) 0 16777215 (put_self (put_self (Same.eq .refl) rfl) rfl) ⟨Nat.zero_le _, by omega, by omega, hp⟩ ?_
  clear hp
  rintro u lo hi w1 ⟨hlo, hhi, hb, hp⟩
  (repeat (first | (with_reducible first | apply WP_seq | apply WP_region | apply wpl_nil | apply thenQ_n) | (apply wlp; ((first | apply pv_move | apply pv_lss) <;> exact rfl); (first | exact fI rfl | exact fB rfl))))
  refine WP_cond_d rfl (fun h => ?_) (fun h => ?_)
  · obtain ⟨m, hm⟩ : ∃ m, m = (lo + hi + 1) / 2 := ⟨_, rfl⟩
    have hlt := d24_lenT (x := y) (d := m) (by omega)
    (repeat (first | (with_reducible first | apply WP_seq | apply WP_block | apply WP_region | apply thenQ_n | apply WP_skip) | (apply wlp; apply pv_move; exact fI rfl)))
    (apply wlp; (exact pv_add rfl rfl); exact int_eq (b := ((lo + hi : Nat) : Int)) (by rw [i64_in (by omega) (by omega)]; omega))
    (apply wlp; (exact pv_add rfl rfl); exact int_eq (b := ((lo + hi + 1 : Nat) : Int)) (by rw [i64_in (by omega) (by omega)]; omega))
    (apply wlp; exact pn_quoI (b := 2) rfl rfl (by decide) (by omega); exact int_eq (b := (m : Int)) (by rw [hm]))
    (repeat (first | (with_reducible first | apply WP_seq | apply WP_region | apply wpl_nil | apply thenQ_n) | (apply wlp; (first | apply pv_move | apply pv_assign); (first | exact fI rfl | exact fS rfl))))
    (apply wls; exact st_call rfl ent99 rfl (c99 y m s2 c2 _ (hy.keep0 hp.keeps) hly (by omega)); rintro _ w2 ⟨s3, c3, rfl, _, hs3, hk⟩; have hp := hp.call hk)
    (repeat (apply wlp; apply pv_move; exact fS rfl))
    (apply wls; exact st_call rfl ent97 rfl (c97 (y * m) x s3 s c3 c _ hs3 (hx.keep0 hp.keeps) (by omega) (by omega)); rintro _ w3 ⟨r, rfl, _, hr, hk⟩; have hp := hp.call hk)
    (repeat (first | (with_reducible first | apply wpl_nil | apply thenQ_n) | (apply wlp; (apply pv_leq <;> exact rfl); exact fB rfl)))
    refine WP_cond_d rfl (fun h2 => ?_) (fun h2 => ?_)
    · have : m ≤ x / y := (Nat.le_div_iff_mul_le hy0).2 (by rw [Nat.mul_comm]; exact hr.1 h2)
      (repeat (first | (with_reducible first | apply WP_region | apply wpl_nil | apply thenQ_n | apply inBlk_n) | (apply wlp; (first | apply pv_move | apply pv_assign); exact fI rfl)))
      exact ⟨m, hi, put_self (put_self (Same.eq (by repeat (first | exact Same.hav | exact Same.refl | refine Same.put rfl ?_ | refine Same.havs rfl ?_))) rfl) rfl, ⟨by omega, by omega, by omega, hp⟩, by omega⟩
    · have : x / y < m := (Nat.div_lt_iff_lt_mul hy0).2 (by
        rw [Nat.mul_comm]
        have : ¬ y * m ≤ x := fun h => h2 (hr.2 h)
        omega)
      (repeat (first | with_reducible apply WP_region | (apply wlp; apply pv_move; exact fI rfl)))
      (apply wlp; (exact pv_sub rfl rfl); exact int_eq (b := ((m - 1 : Nat) : Int)) (by rw [i64_in (by omega) (by omega)]; omega))
      (repeat (first | (with_reducible first | apply wpl_nil | apply thenQ_n | apply inBlk_n) | (apply wlp; apply pv_assign; exact fI rfl)))
      exact ⟨lo, m - 1, put_self (put_self (Same.eq (by repeat (first | exact Same.hav | exact Same.refl | refine Same.put rfl ?_ | refine Same.havs rfl ?_))) rfl) rfl, ⟨by omega, by omega, by omega, hp⟩, by omega⟩
  · obtain rfl : lo = x / y := by omega
    (repeat (first | (with_reducible first | apply WP_seq | apply WP_region | apply wpl_nil | apply thenQ_n | apply thenQ_exit | apply WP_ret | apply WP_exit) | ((with_reducible apply inBlk_same); exact rfl) | (apply wlp; (first | apply pv_move | apply pv_assign); exact fI rfl)))
    exact ret_tmp rfl rfl ⟨_, rfl, rfl, hp.keeps⟩
end Go.Proofs.YteklkjnhefnimaaDoor
/- sortesref01: Quo, Gcd, Right; conditions: the numbers are short, no division by zero. -/
namespace Go.Proofs.YteklkjnhefnimaaDoor
open Go.Eng Go.Dig

/-! plain: one digit of a quotient -/
theorem quo_next {B x y i dx : Nat} (hy : 0 < y) (hd : dx = x / B ^ i % B) (hB : 0 < B) :
    x / B ^ i / y = (dx + B * (x / B ^ (i + 1) % y)) / y + B * (x / B ^ (i + 1) / y) ∧ x / B ^ i % y = (dx + B * (x / B ^ (i + 1) % y)) % y ∧ (dx + B * (x / B ^ (i + 1) % y)) / y < B := by
  have h1 := div_step B x i
  rw [← hd] at h1
  generalize x / B ^ (i + 1) = X at *
  rw [h1]
  have h2 := Nat.div_add_mod X y
  have hr := Nat.mod_lt X hy
  generalize X / y = q at *
  generalize X % y = r at *
  have h3 : B * X + dx = (dx + B * r) + y * (B * q) := by
    rw [← h2, Nat.mul_add, ← Nat.mul_assoc, ← Nat.mul_assoc, Nat.mul_comm B y]
    omega
  rw [h3]
  refine ⟨?_, ?_, ?_⟩
  · rw [Nat.add_mul_div_left _ _ hy]
  · rw [Nat.add_mul_mod_self_left]
  · refine (Nat.div_lt_iff_lt_mul hy).2 ?_
    have h4 : dx < B := by rw [hd]; exact Nat.mod_lt _ hB
    have h5 : B * (r + 1) ≤ B * y := Nat.mul_le_mul_left B hr
    rw [Nat.mul_add] at h5
    omega
theorem rep_set (k d : Nat) (T : List Nat) : (List.replicate (k + 1) 0 ++ T).set k d = List.replicate k 0 ++ (d :: T) := by
  rw [List.replicate_succ', List.append_assoc, List.set_append_right _ _ (by simp)]
  simp
theorem rep_succ (k : Nat) (T : List Nat) : List.replicate (k + 1) 0 ++ T = List.replicate k 0 ++ (0 :: T) := by
  rw [List.replicate_succ', List.append_assoc]
  rfl
theorem trim_push {R dx : Nat} (hd : dx < 16777216) : trimL (dx :: d24 R) = d24 (dx + 16777216 * R) := by
  rw [trim_d24 (.cons hd (d24_bd R))]
  show d24 (dx + 16777216 * val 16777216 (d24 R)) = _
  rw [d24_val]
theorem val_cons' (b d : Nat) (l : List Nat) : val b (d :: l) = d + b * val b l := rfl
theorem val_nil' (b : Nat) : val b [] = 0 := rfl
theorem d24_zero : d24 0 = [] := rfl
theorem sl_zero : Value.slice none (d24 0).length 0 = .slice none 0 0 := rfl

attribute [local irreducible] PV StepF wpl wpd WP Ret
attribute [local irreducible] Fit d24 val

theorem c92 (x y : Nat) (w : World) (hx : Fit x) (hy : Fit y) (hy0 : 0 < y) : Ret Tryd.prog 92 [.string (ofN x), .string (ofN y)] w (fun v w' => v = .tuple #[.string (ofN (x / y)), .string (ofN (x % y)), .bool true] ∧ Keeps [] w w') := by
  have hsy := ofN_size y
  have hny : (digs 256 y).length ≠ 0 := fun h => by
    have := (digs_eq_nil (b := 256) (by decide)).1 (List.eq_nil_of_length_eq_zero h)
    omega
  refine Ret.of_WP Tryd.func92 rfl Tryd.ntmps92 rfl ?_
  have hp := Hp.start (M := []) (w := w)
  (repeat (first | (with_reducible first | apply WP_seq | apply WP_region | apply wpl_nil | apply thenQ_n) | (apply wlp; (first | apply pv_move | apply pv_assign); (first | exact fB rfl | exact fT rfl))))
  (apply wls; exact st_call rfl ent67 rfl (c67N y _ hy); rintro _ w1 ⟨rfl, hk⟩; have hp := hp.call hk)
  (repeat (first | (with_reducible first | apply WP_seq | apply WP_region | apply wpl_nil | apply thenQ_n) | (apply wlp; ((first | apply pv_move | apply pv_assign | (apply pf_lens; exact rfl) | (apply pv_eql; (first | exact rfl | exact ev_sel rfl (by assumption)))) <;> exact rfl); (first | exact fI rfl | exact fB rfl | exact fT rfl))))
  refine WP_cond_d rfl (fun h => absurd h (by omega)) (fun _ => ?_)
  (repeat (first | (with_reducible first | apply WP_seq | apply WP_region | apply thenQ_n | apply WP_skip) | (apply wlp; apply pv_move; exact fT rfl)))
  (apply wls; exact st_call rfl ent68 rfl (c68 x 7 _ (by decide) hx); rintro _ w2 ⟨⟨p, hpe, rfl⟩, hk⟩; have hp := hp.call hk)
  skip
  (apply wlp; exact pv_move; exact fU rfl)
  (repeat (first | (with_reducible first | apply WP_seq | apply WP_region | apply wpl_nil | apply thenQ_n) | (apply wlp; ((first | apply pv_move | apply pv_assign | apply pv_extract) <;> exact rfl); (first | exact fI rfl | exact fB rfl | exact fT rfl))))
  (apply wls; exact st_call rfl ent68 rfl (c68 y 7 _ (by decide) hy); rintro _ w3 ⟨⟨q, hqe, rfl⟩, hk⟩; have hp := hp.call hk)
  (apply wlp; exact pv_move; exact fU rfl)
  (apply wlp; (apply pv_extract <;> exact rfl); exact fI rfl)
  (apply wlp; (apply pv_extract <;> exact rfl); exact fB rfl)
  (apply wlp; apply pv_assign; exact fI rfl)
  (apply wlp; apply pv_assign; exact fB rfl)
  (repeat (with_reducible first | apply WP_seq | apply WP_region | apply wpl_nil | apply thenQ_n))
  (apply wlp; apply pv_move; exact fB rfl)
  (apply wlp; apply pv_move; exact fB rfl)
  (repeat (first | (with_reducible first | apply wpl_nil | apply thenQ_n) | ((first | apply wlp | (apply wlg; exact rfl; exact rfl)); (intros; (first | apply pv_move | exact pv_and rfl rfl rfl)); (intros; exact fB rfl))))
  refine WP_cond rfl (fun h => ?_) (fun h => ?_)
  · obtain ⟨rfl, rfl⟩ : p = true ∧ q = true := by
      revert h
      cases p <;> cases q <;> simp
    have hx7 := small7 (of_decide_eq_true hpe.symm) (Nat.le_refl _)
    have hy7 := small7 (of_decide_eq_true hqe.symm) (Nat.le_refl _)
    have hd1 : x / y ≤ x := Nat.div_le_self _ _
    have hd2 : x % y ≤ x := Nat.mod_le _ _
    simp only [if_true]
    (repeat with_reducible apply WP_seq)
    refine WP_draw mixed (by kernel_rfl) (fun w' => Hp _ _ w' _) hp.drew ?_
    have hp := hp.drew
    (apply wdp; exact rfl; (intro w hp; exact pv_move); exact fI rfl)
    (apply wdp; exact rfl; (intro w hp; exact pv_move); exact fI rfl)
    (apply wdp; exact rfl; (intro w hp; exact pn_quoI rfl rfl hy0 (by omega)); exact fI rfl)
    (apply wds; exact rfl; exact st_call rfl ent40 rfl (c40 _ _ (by omega)); rintro _ w4 ⟨rfl, hk⟩; have hp := hp.call hk; refine ⟨hp, ?_⟩)
    rw [Int.toNat_natCast]
    (apply wdp; exact rfl; (intro w hp; exact pv_move); exact fI rfl)
    (apply wdp; exact rfl; (intro w hp; exact pv_move); exact fI rfl)
    (apply wdp; exact rfl; (intro w hp; exact pn_remI rfl rfl hy0); exact fI rfl)
    (apply wds; exact rfl; exact st_call rfl ent40 rfl (c40 _ _ (by omega)); rintro _ w5 ⟨rfl, hk⟩; have hp := hp.call hk; refine ⟨hp, ?_⟩)
    rw [Int.toNat_natCast]
    (repeat (first | ((apply wdp; exact rfl); (intro w hp; intros; apply pv_assign); (intros; (first | exact fB rfl | exact fT rfl))) | (apply wdpF; exact rfl; exact rfl; exact rfl; exact rfl) | (apply wdpU; exact rfl; exact rfl; exact rfl)))
    refine wpd_nil ?_
    (repeat (with_reducible first | apply thenQ_n | apply thenQ_ret | apply WP_ret))
    exact ret_tmp3 rfl rfl rfl rfl ⟨_, rfl, rfl, hp.keeps⟩
  · have hlx := hx.d24
    have hly := hy.d24
    clear h hpe hqe
    (repeat (first | (with_reducible first | apply WP_seq | apply WP_region | apply thenQ_n | apply WP_skip) | (apply wlp; apply pv_move; exact fT rfl)))
    (apply wls; exact st_call rfl ent69 rfl (c69 x _ hx); rintro _ w4 ⟨su, cu, rfl, hvu, hpo⟩; have hsu := ownL_At hpo 0 rfl hvu (fun _ => rfl); have hp := hp.call hpo.keeps; clear hpo)
    (repeat (first | (with_reducible first | apply WP_seq | apply WP_region | apply wpl_nil | apply thenQ_n) | (apply wlp; (first | apply pv_move | apply pv_assign); (first | exact fS rfl | exact fT rfl))))
    (apply wls; exact st_call rfl ent69 rfl (c69 y _ hy); rintro _ w5 ⟨sv, cv, rfl, hvv, hpo⟩; have hsv := ownL_At hpo 0 rfl hvv (fun _ => rfl); have hsu := hsu.keep0 hpo.keeps; have hp := hp.call hpo.keeps; clear hpo)
    have hk5 := hp.keeps
    clear hp
    have hp := (Hp.start (M := []) (w := w5)).nilL eD 3 1
    (repeat (first | (with_reducible first | apply WP_seq | apply WP_region | apply wpl_nil | apply thenQ_n) | (apply wlp; ((first | apply pv_move | apply pv_assign | (apply pf_len; exact rfl)) <;> exact rfl); (first | exact fI rfl | exact fS rfl))))
    (apply wls; exact sf_make eD 0 hp rfl rfl rfl rfl rfl rfl rfl (by omega) rfl; rintro _ w6 ⟨g, rfl, hv, hp⟩)
    (repeat (first | (with_reducible first | apply WP_seq | apply WP_region | apply wpl_nil | apply thenQ_n) | (apply wlp; ((first | apply pv_move | apply pv_assign | (apply pf_len; exact rfl)) <;> exact rfl); (first | exact fI rfl | exact fS rfl))))
    (apply wlp; exact pv_sub rfl rfl; exact int_eq (i64_in (by omega) (by omega)))
    (repeat (first | (with_reducible first | apply WP_block | apply wpl_nil | apply thenQ_n) | (apply wlp; apply pv_assign; exact fI rfl)))
    refine WP_loop5 [14, 15, 53, 54, 55, 56, 57, 58, 59, 60, 61, 62, 63, 64, 65, 66, 67, 68, 69, 70, 71, 72, 73, 74, 75, 76, 77, 78, 79, 80, 81, 82] (fun (k : Nat) (T z : List Nat) (sr : Option Addr) (cr : Nat) F => (F.put 15 (.int .i64 ((k : Int) - 1))).put 14 (.slice sr (d24 (x / 16777216 ^ k % y)).length cr))
      (fun k T z sr cr w' => k ≤ (d24 x).length ∧ k + T.length = (d24 x).length ∧ Bd 16777216 T ∧ val 16777216 T = x / 16777216 ^ k / y ∧ d24 (x / 16777216 ^ k % y) <+: z ∧ SVL sr cr z ∧ SVL (some ⟨g, 0, none⟩) (d24 x).length (List.replicate k 0 ++ T) ∧ Hp w5 [] w' [ownL eD 3 1 (some ⟨g, 0, none⟩) (d24 x).length (List.replicate k 0 ++ T), ownL eD 3 1 sr cr z])
      (fun k _ _ _ _ => k) (d24 x).length [] [] none 0 ?_ ?_ ?_
    · refine put_self (put_self (Same.eq .refl) rfl) ?_
      rw [Nat.div_eq_of_lt (d24_lt (Nat.le_refl _)), Nat.zero_mod, sl_zero]
      rfl
    · have e0 : x / 16777216 ^ (d24 x).length = 0 := Nat.div_eq_of_lt (d24_lt (Nat.le_refl _))
      rw [e0, Nat.zero_mod, Nat.zero_div, List.append_nil]
      exact ⟨Nat.le_refl _, by simp, .nil, val_nil' _, d24_zero ▸ List.nil_prefix, SVL.nil, hv, hp⟩
    clear hp hv
    rintro u k T z sr cr w7 ⟨hk, hkT, hTb, hTv, hpre, hvz, hvq, hp⟩
    (repeat (first | (with_reducible first | apply WP_seq | apply WP_region | apply wpl_nil | apply thenQ_n) | (apply wlp; ((first | apply pv_move | apply pv_geq) <;> exact rfl); (first | exact fI rfl | exact fB rfl))))
    refine WP_cond_d rfl (fun h2 => ?_) (fun h2 => ?_)
    · obtain ⟨i, rfl⟩ : ∃ i, k = i + 1 := ⟨k - 1, by omega⟩
      rw [show (((i + 1 : Nat) : Int) - 1) = (i : Int) from by omega]
      have hlt : i < (d24 x).length := by omega
      obtain ⟨b0, o0, hs0, hc0⟩ := hsu.base (by omega)
      have hci := hc0 i _ (List.getElem?_eq_getElem hlt) 0 _ rfl
      have hbd := (d24_bd x).get hlt
      have hgx := d24_get hlt
      generalize (d24 x)[i] = dx at hci hbd hgx
      have hci : w5.cell? ⟨b0, o0 + i * 1, none⟩ = some (.int .i64 (dx : Int)) := hci
      obtain ⟨hq1, hq2, hq3⟩ := quo_next (B := 16777216) (x := x) (y := y) (i := i) hy0 hgx (by decide)
      have hrl : (d24 (x / 16777216 ^ (i + 1) % y)).length ≤ 4000 := (Nat.le_trans (hy.le (Nat.le_of_lt (Nat.mod_lt _ hy0))).d24s (by decide) : _ ≤ 4000)
      have htp := trim_push (R := x / 16777216 ^ (i + 1) % y) hbd
      generalize x / 16777216 ^ (i + 1) % y = R at *
      obtain ⟨R1, hR1⟩ : ∃ R1, R1 = dx + 16777216 * R := ⟨_, rfl⟩
      rw [← hR1] at hq1 hq2 hq3 htp
      have hl1 : (d24 R1).length ≤ (d24 R).length + 1 := by
        have h9 := (trimL_pre (dx :: d24 R)).length_le
        rw [List.length_cons, htp] at h9
        exact h9
      generalize d24 R = DR at *
      (repeat (first | (with_reducible first | apply WP_seq | apply WP_block | apply WP_region | apply thenQ_n | apply WP_skip) | (apply wlp; ((first | apply pv_move | (apply pf_load; exact rfl) | (apply pf_index; exact rfl)) <;> (first | exact rfl | assumption | exact hp.old0 (by assumption))); (first | exact fI rfl | exact fP rfl | exact fS rfl))))
      (apply wls; exact sf_slice hp rfl rfl rfl rfl rfl rfl rfl; rintro _ w8 ⟨nb, rfl, hp⟩)
      have hp : Hp w5 [] w8 [ownL eD 3 1 (some ⟨nb, 0, none⟩) 1 [dx], ownL eD 3 1 (some ⟨g, 0, none⟩) (d24 x).length (List.replicate (i + 1) 0 ++ T), ownL eD 3 1 sr cr z] := hp.rowOf 0 1 1 rfl rfl
      have hv1 : SVL (some ⟨nb, 0, none⟩) 1 [dx] := .inr ⟨nb, 1, rfl, Nat.le_refl _, by unfold maxLen; omega⟩
      (repeat (apply wlp; apply pv_move; exact fS rfl))
      (apply wls; exact sf_app eD [dx] (DR) hp 0 rfl rfl rfl rfl rfl rfl (fun _ => rfl) rfl rfl rfl hv1 ((ownL_At hp 2 rfl hvz (fun _ => rfl)).pre hpre) (fun _ => rfl) (by simp; omega); rintro _ w9 ⟨s1, c1, rfl, hv2, hp⟩)
      have hp : Hp w5 [] w9 [ownL eD 3 1 s1 c1 (dx :: DR), ownL eD 3 1 (some ⟨g, 0, none⟩) (d24 x).length (List.replicate (i + 1) 0 ++ T), ownL eD 3 1 sr cr z] := hp
      have hp := hp.picks [0, 1] [ownL eD 3 1 s1 c1 (dx :: DR), ownL eD 3 1 (some ⟨g, 0, none⟩) (d24 x).length (List.replicate (i + 1) 0 ++ T)] rfl rfl
      have h89 := c89 (dx :: DR) s1 c1 w9 hv2.cap (by rw [List.length_cons]; omega) (ownL_At hp 0 rfl hv2 (fun _ => rfl))
      rw [htp] at h89
      (apply wls; exact st_call rfl ent89 rfl h89; rintro _ w10 ⟨rfl, hk⟩; have hp := hp.call hk)
      have hpr1 : d24 R1 <+: (dx :: DR) := htp ▸ trimL_pre _
      (repeat (first | (with_reducible first | apply WP_seq | apply WP_region | apply wpl_nil | apply thenQ_n) | (apply wlp; (first | apply pv_move | apply pv_assign); exact fS rfl)))
      (apply wls; exact st_call rfl ent97 rfl (c97 R1 y s1 sv c1 cv _ ((ownL_At hp 0 rfl hv2 (fun _ => rfl)).pre hpr1) (hsv.keep0 hp.keeps) (by omega) (by omega)); rintro _ w11 ⟨r, rfl, hr, _, hk⟩; have hp := hp.call hk)
      (repeat (first | (with_reducible first | apply wpl_nil | apply thenQ_n) | (apply wlp; (apply pv_geq <;> exact rfl); exact fB rfl)))
      refine WP_cond_d rfl (fun h3 => ?_) (fun h3 => ?_)
      · have hle : y ≤ R1 := hr.1 h3
        obtain ⟨d, hd⟩ : ∃ d, d = R1 / y := ⟨_, rfl⟩
        have hiq : i < (List.replicate (i + 1) 0 ++ T).length := by simp; omega
        have hyd : y * d ≤ R1 := by rw [hd]; exact Nat.mul_div_le R1 y
        have hmod : R1 - y * d = R1 % y := by
          have := Nat.div_add_mod R1 y
          rw [← hd] at this
          omega
        have hll : (d24 (y * d)).length ≤ 100000 := by
          have := d24_lenT (x := y) (d := d) (by omega)
          have := hy.d24s
          omega
        (repeat (first | (with_reducible first | apply WP_seq | apply WP_region) | (apply wlp; apply pv_move; (first | exact fI rfl | exact fS rfl))))
        (apply wls; exact st_call rfl ent98 rfl (c98 R1 y s1 sv c1 cv _ ((ownL_At hp 0 rfl hv2 (fun _ => rfl)).pre hpr1) (hsv.keep0 hp.keeps) (by omega) (by omega) hy0 hq3); rintro _ w12 ⟨rfl, hk⟩; have hp := hp.call hk)
        rw [← hd]
        (apply wlp; exact pf_index rfl rfl rfl rfl hlt; exact fP rfl)
        (apply wls0; exact st_setL eD _ i d hp 1 rfl hvq hiq rfl rfl (fun _ => rfl) rfl rfl (sizeTy_ok rfl); rintro _ w13 ⟨rfl, hp⟩)
        have hvq2 : SVL (some ⟨g, 0, none⟩) (d24 x).length (List.replicate i 0 ++ (d :: T)) := by
          have e : (List.replicate i 0 ++ (d :: T)).length = (d24 x).length := by simp; omega
          unfold SVL
          rw [e]
          exact .inr ⟨g, _, rfl, Nat.le_refl _, by unfold maxLen; omega⟩
        have hp : Hp w5 [] w13 [ownL eD 3 1 s1 c1 (dx :: DR), ownL eD 3 1 (some ⟨g, 0, none⟩) (d24 x).length (List.replicate i 0 ++ (d :: T))] := by
          rw [← rep_set]
          exact hp
        have hcd : w13.cell? ⟨g, 0 + i * 1, none⟩ = some (.int .i64 (d : Int)) := by
          have hsq := ownL_At hp 1 rfl hvq2 (fun _ => rfl)
          obtain ⟨b3, o3, e3, hc3⟩ := hsq.base (by simp; omega)
          cases e3
          exact hc3 i d (by simp) 0 _ rfl
        (repeat (first | (with_reducible first | apply WP_region | apply wpl_nil | apply thenQ_n) | (apply wlp; ((first | apply pv_move | (apply pf_load; exact rfl) | (apply pf_index; exact rfl)) <;> (first | exact rfl | assumption)); (first | exact fI rfl | exact fP rfl | exact fS rfl))))
        (apply wls; exact st_call rfl ent99 rfl (c99 y d sv cv _ (hsv.keep0 hp.keeps) hly (by omega)); rintro _ w14 ⟨s3, c3, rfl, _, hs3, hk⟩; have hp := hp.call hk)
        (apply wls; exact st_call rfl ent73 rfl (c73o R1 (y * d) s1 s3 c1 c3 _ ((ownL_At hp 0 rfl hv2 (fun _ => rfl)).pre hpr1) hs3 (by omega) hll hyd); rintro _ w15 ⟨s4, c4, z4, rfl, hpr4, hv4, hpo⟩; have hp := hp.join hpo; clear hpo)
        rw [hmod]
        rw [hmod] at hpr4
        rw [← hq2]
        rw [← hq2] at hpr4
        (repeat (first | (with_reducible first | apply WP_region | apply wpl_nil | apply thenQ_n | apply inBlk_n) | (apply wlp; (first | apply pv_move | apply pv_assign); (first | exact fI rfl | exact fS rfl))))
        (apply wlp; exact pv_sub rfl rfl; exact int_eq (i64_in (by omega) (by omega)))
        (repeat (first | (with_reducible first | apply wpl_nil | apply thenQ_n) | (apply wlp; apply pv_assign; exact fI rfl)))
        refine ⟨i, d :: T, z4, s4, c4, put_self (put_self (Same.eq (by repeat (first | exact Same.hav | exact Same.refl | refine Same.put rfl ?_ | refine Same.havs rfl ?_))) rfl) rfl, ⟨by omega, by simp; omega, .cons (by omega) hTb, ?_, hpr4, hv4, hvq2, hp.picks [2, 0] _ rfl rfl⟩, by omega⟩
        rw [val_cons', hTv, hd, hq1]
      · have hlt1 : R1 < y := by
          rcases Nat.lt_or_ge R1 y with h | h
          · exact h
          · exact absurd (hr.2 h) h3
        have e1 : R1 / y = 0 := Nat.div_eq_of_lt hlt1
        have e2 : R1 % y = R1 := Nat.mod_eq_of_lt hlt1
        rw [e1, Nat.zero_add] at hq1
        rw [e2] at hq2
        rw [← hq2] at hpr1
        rw [← hq2]
        (repeat (first | (with_reducible first | apply WP_region | apply thenQ_n | apply inBlk_n | apply WP_skip) | (apply wlp; apply pv_move; exact fI rfl)))
        (apply wlp; exact pv_sub rfl rfl; exact int_eq (i64_in (by omega) (by omega)))
        (repeat (first | (with_reducible first | apply wpl_nil | apply thenQ_n) | (apply wlp; apply pv_assign; exact fI rfl)))
        rw [rep_succ] at hvq hp
        refine ⟨i, 0 :: T, _, s1, c1, put_self (put_self (Same.eq (by repeat (first | exact Same.hav | exact Same.refl | refine Same.put rfl ?_ | refine Same.havs rfl ?_))) rfl) rfl, ⟨by omega, by simp; omega, .cons (by omega) hTb, ?_, hpr1, hv2, hvq, hp.picks [1, 0] _ rfl rfl⟩, by omega⟩
        rw [val_cons', hTv, hq1, Nat.zero_add]
    · obtain rfl : k = 0 := by omega
      rw [Nat.pow_zero, Nat.div_one] at hTv hpre
      rw [Nat.pow_zero, Nat.div_one]
      have hrl : (d24 (x % y)).length ≤ 100000 := hx.mod.d24
      have hp : Hp w5 [] w7 [ownL eD 3 1 (some ⟨g, 0, none⟩) (d24 x).length T, ownL eD 3 1 sr cr z] := hp
      have hvq : SVL (some ⟨g, 0, none⟩) (d24 x).length T := hvq
      have hTl : T.length = (d24 x).length := by omega
      have h70 := fun w' h => c70 T (some ⟨g, 0, none⟩) (d24 x).length w' h hTb (by omega)
      rw [hTl, hTv] at h70
      have h71 := fun w' h => c70 (d24 (x % y)) sr cr w' h (d24_bd _) hrl
      rw [d24_val] at h71
      (repeat (first | (with_reducible first | apply WP_seq | apply WP_region | apply thenQ_n | apply thenQ_exit | apply WP_exit) | ((with_reducible apply inBlk_same); exact rfl) | (apply wlp; apply pv_move; exact fS rfl)))
      (apply wls; exact st_call rfl ent70 rfl (h70 _ (ownL_At hp 0 rfl hvq (fun _ => rfl))); rintro _ w8 ⟨rfl, hk⟩; have hp := hp.call hk)
      (repeat (apply wlp; apply pv_move; exact fS rfl))
      (apply wls; exact st_call rfl ent70 rfl (h71 _ ((ownL_At hp 1 rfl hvz (fun _ => rfl)).pre hpre)); rintro _ w9 ⟨rfl, hk⟩; have hp := hp.call hk)
      (repeat (first | (with_reducible first | apply wpl_nil | apply thenQ_n | apply WP_ret) | (apply wlp; apply pv_assign; (first | exact fB rfl | exact fT rfl))))
      exact ret_tmp3 rfl rfl rfl rfl ⟨_, rfl, rfl, hk5.trans hp.keeps (by simp)⟩
end Go.Proofs.YteklkjnhefnimaaDoor
/- sortesref01: Gcd, Right; sortesref02: lowest, Make; sortesref18: Plain, Chance; conditions: short numbers, the tiers lie in memory. -/
namespace Go.Proofs.YteklkjnhefnimaaDoor
open Go.Eng Go.Dig

attribute [local irreducible] PV StepF wpl wpd WP Ret
attribute [local irreducible] Fit RB ofN chZ chA

theorem c85 (x : Nat) (w : World) : Ret Tryd.prog 85 [.string (ofN x)] w (fun v w' => v = .bool true ∧ Keeps [] w w') := by
  have hsz := ofN_size x
  refine Ret.of_WP Tryd.func85 rfl Tryd.ntmps85 rfl ?_
  have hp := Hp.start (M := []) (w := w)
  (repeat (with_reducible first | apply WP_seq | apply WP_region))
  (apply wlp; apply pv_assign; exact fB rfl)
  (repeat (with_reducible first | apply WP_seq | apply WP_region | apply wpl_nil | apply thenQ_n))
  (apply wlp; apply pv_move; exact fT rfl)
  (apply wlp; ((apply pf_lens; exact rfl) <;> exact rfl); exact fI rfl)
  by_cases h0 : x = 0
  · have h1 : (ofN x).size = 0 := by rw [hsz, h0]; rfl
    (apply wlp; exact pv_eql rfl rfl; exact bool_eq (b := true) (decide_eq_true (by omega)))
    (repeat (first | (with_reducible first | apply wpl_nil | apply thenQ_n | apply WP_ret) | (apply wlp; (intros; (first | apply pv_move | apply pv_assign | exact pv_orT rfl)); (intros; exact fB rfl)) | (apply wlpF; exact rfl; exact rfl; exact rfl) | (apply wlpU; exact rfl; exact rfl)))
    exact ret_tmp rfl rfl ⟨_, rfl, rfl, hp.keeps⟩
  · obtain ⟨h1, hb⟩ := ofN_top h0
    (apply wlp; exact pv_eql rfl rfl; exact bool_eq (b := false) (decide_eq_false (by omega)))
    (apply wlp; apply pv_move; exact fB rfl)
    ((apply wlpT; exact rfl; exact rfl); (apply pv_move); (intros; exact fT rfl))
    (apply wlpT; exact rfl; exact rfl; exact pf_index_s (i := 0) rfl rfl rfl h1; exact fI rfl)
    (apply wlpT; exact rfl; exact rfl; exact pv_neq rfl rfl; exact bool_eq (b := true) (ndt hb))
    (repeat (first | (with_reducible first | apply wpl_nil | apply thenQ_n | apply WP_ret) | (apply wlp; (intros; (first | apply pv_assign | exact pv_orF rfl rfl)); (intros; exact fB rfl)) | (apply wlpF; exact rfl; exact rfl; exact rfl) | (apply wlpU; exact rfl; exact rfl)))
    exact ret_tmp rfl rfl ⟨_, rfl, rfl, hp.keeps⟩
theorem c91 (x y : Nat) (w : World) (hx : Fit x) (hy : Fit y) : Ret Tryd.prog 91 [.string (ofN x), .string (ofN y)] w (fun v w' => v = .string (ofN (Nat.gcd x y)) ∧ Keeps [] w w') := by
  refine Ret.of_WP Tryd.func91 rfl Tryd.ntmps91 rfl ?_
  have hp := Hp.start (M := []) (w := w)
  (repeat (first | (with_reducible first | apply WP_seq | apply WP_region | apply wpl_nil | apply thenQ_n) | (apply wlp; (first | apply pv_move | apply pv_assign); exact fT rfl)))
  (apply wls; exact st_call rfl ent67 rfl (c67N x _ hx); rintro _ w1 ⟨rfl, hk⟩; have hp := hp.call hk)
  (repeat (first | (with_reducible first | apply WP_seq | apply WP_region | apply wpl_nil | apply thenQ_n) | (apply wlp; (first | apply pv_move | apply pv_assign); exact fT rfl)))
  (apply wls; exact st_call rfl ent67 rfl (c67N y _ hy); rintro _ w2 ⟨rfl, hk⟩; have hp := hp.call hk)
  (repeat (first | (with_reducible first | apply WP_seq | apply WP_block | apply wpl_nil | apply thenQ_n) | (apply wlp; apply pv_assign; exact fT rfl)))
  refine WP_loop2 [0, 1, 5, 6, 7, 12, 13, 14, 15, 16, 17, 18, 19, 20, 21, 22, 23] (fun (a b : Nat) F => (F.put 0 (.string (ofN a))).put 1 (.string (ofN b))) (fun a b w' => Fit a ∧ Fit b ∧ Nat.gcd a b = Nat.gcd x y ∧ Hp w [] w' []) (fun _ b => b) x y (put_self (put_self (Same.eq .refl) rfl) rfl) ⟨hx, hy, rfl, hp⟩ ?_
  clear hp
  rintro u a b w3 ⟨ha, hb, hg, hp⟩
  have hsz := ofN_size b
  (repeat (first | (with_reducible first | apply WP_seq | apply WP_region | apply wpl_nil | apply thenQ_n) | (apply wlp; ((first | apply pv_move | (apply pf_lens; exact rfl) | apply pv_gtr) <;> exact rfl); (first | exact fI rfl | exact fB rfl | exact fT rfl))))
  refine WP_cond_d rfl (fun h => ?_) (fun h => ?_)
  · have hb0 : 0 < b := by
      rcases Nat.eq_zero_or_pos b with h0 | h0
      · subst h0
        rw [hsz, digs_zero] at h
        simp at h
      · exact h0
    have hlt := Nat.mod_lt a hb0
    (repeat (first | (with_reducible first | apply WP_seq | apply WP_block | apply WP_region | apply thenQ_n | apply WP_skip) | (apply wlp; apply pv_move; exact fT rfl)))
    (apply wls; exact st_call rfl ent92 rfl (c92 a b _ ha hb hb0); rintro _ w4 ⟨rfl, hk⟩; have hp := hp.call hk)
    (repeat (first | (with_reducible first | apply WP_seq | apply WP_region | apply wpl_nil | apply thenQ_n | apply inBlk_n) | (apply wlp; ((first | apply pv_move | apply pv_assign | apply pv_extract) <;> exact rfl); (first | exact fB rfl | exact fT rfl | exact fU rfl))))
    exact ⟨b, a % b, put_self (put_self (Same.eq (by repeat (first | exact Same.hav | exact Same.refl | refine Same.put rfl ?_ | refine Same.havs rfl ?_))) rfl) rfl, ⟨hb, ha.mod, by rw [← gcd_step]; exact hg, hp⟩, hlt⟩
  · obtain rfl : b = 0 := by
      rcases Nat.eq_zero_or_pos b with h0 | h0
      · exact h0
      · have := (ofN_top (n := b) (by omega)).1
        omega
    rw [Nat.gcd_zero_right] at hg
    subst hg
    (repeat (first | (with_reducible first | apply WP_seq | apply WP_region | apply wpl_nil | apply thenQ_n | apply thenQ_exit | apply WP_ret | apply WP_exit) | ((with_reducible apply inBlk_same); exact rfl) | (apply wlp; (first | apply pv_move | apply pv_assign); exact fT rfl)))
    exact ret_tmp rfl rfl ⟨_, rfl, rfl, hp.keeps⟩
theorem c86 (n d : Nat) (w : World) (hn : Fit n) (hd : Fit d) (hd0 : 0 < d) : Ret Tryd.prog 86 [.bool false, .string (ofN n), .string (ofN d)] w (fun v w' => v = RV (n / Nat.gcd n d) (d / Nat.gcd n d) ∧ Keeps [] w w') := by
  have hg0 : 0 < Nat.gcd n d := Nat.gcd_pos_of_pos_right n hd0
  have hgf : Fit (Nat.gcd n d) := hd.le (Nat.le_of_dvd hd0 (Nat.gcd_dvd_right n d))
  have he := ofN_eq n 0
  rw [ofN_zero] at he
  refine Ret.of_WP Tryd.func86 rfl Tryd.ntmps86 rfl ?_
  have hp := Hp.start (M := []) (w := w)
  (repeat (with_reducible first | apply WP_seq | apply WP_region))
  (apply wls; exact salloc3 hp (zeroTy_ok rfl); rintro _ w0 ⟨b, rfl, hp⟩)
  (repeat (with_reducible first | apply WP_seq | apply WP_region | apply wpl_nil | apply thenQ_n))
  (apply wlp; apply pv_move; exact fT rfl)
  by_cases h0 : n = 0
  · subst h0
    rw [Nat.gcd_zero_left, Nat.zero_div, Nat.div_self hd0]
    (apply wlp; exact pv_seql rfl rfl; exact bool_eq (b := true) (he.trans (decide_eq_true rfl)))
    (repeat (with_reducible first | apply wpl_nil | apply thenQ_n))
    refine WP_cond_t rfl ?_
    (repeat (with_reducible first | apply WP_seq | apply WP_region))
    (apply wls; exact st_call rfl ent40 rfl (c40 1 _ (by decide)); rintro _ w1 ⟨rfl, hk⟩; have hp := hp.call hk)
    rw [show (1 : Int).toNat = 1 from rfl]
    (repeat (first | (with_reducible first | apply wpl_nil | apply thenQ_n | apply thenQ_ret | apply WP_ret) | (apply wlp; ((apply pf_build; exact rfl) <;> exact rfl); exact fA3 rfl) | (apply wls0; exact sstore3 hp 0 rfl rfl rfl rfl (sizeTy_ok rfl) rfl; rintro _ w ⟨rfl, hp⟩)))
    exact ret_cell rfl rfl rfl rfl (hp.agg_blk 0 rfl rfl) ⟨_, rfl, by unfold RV; rw [ofN_zero]; rfl, hp.keeps⟩
  · (apply wlp; exact pv_seql rfl rfl; exact bool_eq (b := false) (he.trans (decide_eq_false h0)))
    (repeat (with_reducible first | apply wpl_nil | apply thenQ_n))
    refine WP_cond_f rfl ?_
    (repeat (first | (with_reducible first | apply WP_seq | apply WP_region | apply thenQ_n | apply WP_skip) | (apply wlp; apply pv_move; exact fT rfl)))
    (apply wls; exact st_call rfl ent91 rfl (c91 n d _ hn hd))
    rintro _ w1 ⟨rfl, hk⟩
    have hp := hp.call hk
    (repeat (first | (with_reducible first | apply WP_seq | apply WP_region | apply wpl_nil | apply thenQ_n) | (apply wlp; (first | apply pv_move | apply pv_assign); exact fT rfl)))
    (apply wls; exact st_call rfl ent92 rfl (c92 _ _ _ hn hgf hg0))
    rintro _ w2 ⟨rfl, hk⟩
    have hp := hp.call hk
    (repeat (first | (with_reducible first | apply WP_seq | apply WP_region | apply wpl_nil | apply thenQ_n) | (apply wlp; ((first | apply pv_move | apply pv_assign | apply pv_extract) <;> exact rfl); (first | exact fB rfl | exact fT rfl | exact fU rfl))))
    (apply wls; exact st_call rfl ent92 rfl (c92 _ _ _ hd hgf hg0))
    rintro _ w3 ⟨rfl, hk⟩
    have hp := hp.call hk
    (repeat (first | (with_reducible first | apply WP_seq | apply WP_region | apply wpl_nil | apply thenQ_n) | (apply wlp; ((first | apply pv_move | apply pv_assign | apply pv_extract | (apply pf_build; exact rfl)) <;> exact rfl); (first | exact fB rfl | exact fT rfl | exact fA3 rfl | exact fU rfl))))
    (repeat (first | (with_reducible first | apply wpl_nil | apply thenQ_n | apply WP_ret) | (apply wls0; exact sstore3 hp 0 rfl rfl rfl rfl (sizeTy_ok rfl) rfl; rintro _ w ⟨rfl, hp⟩)))
    exact ret_cell rfl rfl rfl rfl (hp.agg_blk 0 rfl rfl) ⟨_, rfl, rfl, hp.keeps⟩
theorem c63 (n d : Nat) (w : World) (hn : Fit n) (hd : Fit d) (hd0 : 0 < d) : Ret Tryd.prog 63 [.bool false, .string (ofN n), .string (ofN d)] w (fun v w' => v = .tuple #[RV (n / Nat.gcd n d) (d / Nat.gcd n d), .bool true] ∧ Keeps [] w w') := by
  have he := ofN_eq d 0
  rw [ofN_zero] at he
  refine Ret.of_WP Tryd.func63 rfl Tryd.ntmps63 rfl ?_
  have hp := Hp.start (M := []) (w := w)
  (repeat (first | (with_reducible first | apply WP_seq | apply WP_region | apply wpl_nil | apply thenQ_n) | (apply wlp; (first | apply pv_move | apply pv_assign); (first | exact fB rfl | exact fT rfl)) | (apply wls; exact salloc3 hp (zeroTy_ok rfl); rintro _ w ⟨b, rfl, hp⟩)))
  (apply wls; exact st_call rfl ent85 rfl (c85 n _))
  rintro _ w1 ⟨rfl, hk⟩
  have hp := hp.call hk
  (repeat (first | (with_reducible first | apply WP_seq | apply WP_region | apply wpl_nil | apply thenQ_n) | (apply wlp; (first | apply pv_move | apply pv_assign); (first | exact fB rfl | exact fT rfl))))
  (apply wls; exact st_call rfl ent85 rfl (c85 d _))
  rintro _ w2 ⟨rfl, hk⟩
  have hp := hp.call hk
  skip
  (apply wlp; apply pv_assign; exact fB rfl)
  (repeat (with_reducible first | apply WP_seq | apply WP_region | apply wpl_nil | apply thenQ_n))
  (apply wlp; apply pv_move; exact fB rfl)
  (apply wlp; (apply pv_not <;> exact rfl); exact fB rfl)
  (apply wlp; apply pv_move; exact fB rfl)
  ((apply wlpT; exact rfl; exact rfl); (apply pv_move); (intros; exact fB rfl))
  ((apply wlpT; exact rfl; exact rfl); ((apply pv_not <;> exact rfl)); (intros; exact fB rfl))
  (apply wlp; exact pv_orF rfl rfl; exact fB rfl)
  (apply wlp; apply pv_move; exact fB rfl)
  ((apply wlpT; exact rfl; exact rfl); (apply pv_move); (intros; exact fT rfl))
  (apply wlpT; exact rfl; exact rfl; exact pv_seql rfl rfl; exact bool_eq (b := false) (he.trans (decide_eq_false (by omega))))
  (apply wlp; exact pv_orF rfl rfl; exact fB rfl)
  (repeat (with_reducible first | apply wpl_nil | apply thenQ_n))
  refine WP_cond_f rfl ?_
  (repeat (first | (with_reducible first | apply WP_seq | apply WP_region | apply thenQ_n | apply WP_skip) | (apply wlp; apply pv_move; (first | exact fB rfl | exact fT rfl))))
  (apply wls; exact st_call rfl ent86 rfl (c86 n d _ hn hd hd0))
  rintro _ w3 ⟨rfl, hk⟩
  have hp := hp.call hk
  (apply wls0; exact sstore3 hp 0 rfl rfl rfl rfl (sizeTy_ok rfl) rfl; rintro _ w4 ⟨rfl, hp⟩)
  (repeat (first | (with_reducible first | apply wpl_nil | apply thenQ_n | apply WP_ret) | (apply wlp; apply pv_assign; exact fB rfl)))
  exact ret_cell2 rfl rfl rfl rfl rfl (hp.agg_blk 0 rfl rfl) ⟨_, rfl, rfl, hp.keeps⟩
theorem c62 (nm : ByteArray) (kind round price pool pick : Int) (s : Option Addr) (c : Nat) (l : List (Int × Int)) (w : World) (hs : SlAt w 2 eT s l) (hl : l.length ≤ 9223372036854775806) :
    Ret Tryd.prog 62 [.agg (dw nm kind round price pool pick s l.length c).toArray] w (fun v w' => v = .bool (plB kind pool pick l) ∧ Keeps [] w w') := by
  refine Ret.of_WP Tryd.func62 rfl Tryd.ntmps62 rfl ?_
  have hp := Hp.start (M := []) (w := w)
  (repeat (first | (with_reducible first | apply WP_seq | apply WP_region | apply wpl_nil | apply thenQ_n) | ((first | apply wlp | (apply wlg; exact rfl; exact rfl)); (intros; ((first | apply pv_move | apply pv_assign | apply pf_field | (apply pf_load; exact rfl) | (apply pf_len; exact rfl) | exact pv_or rfl rfl rfl | apply pv_lss | apply pv_gtr | (apply pv_neq; (first | exact rfl | exact ev_sel rfl (by assumption)))) <;> (first | exact rfl | exact ev_sel rfl (by assumption) | exact hp.cell 0 rfl rfl))); (intros; (first | exact fI rfl | exact fB rfl | exact fP rfl | exact fS rfl))) | (apply wls; exact sbox13 hp rfl; rintro _ w ⟨b, rfl, hp⟩)))
  refine WP_cond rfl (fun h => ?_) (fun h => ?_)
  · have hz : plB kind pool pick l = false := by
      by_cases h1 : kind = 1 ∧ 0 ≤ pool ∧ pool ≤ 60 ∧ 0 ≤ pick ∧ pick ≤ pool
      · unfold plB
        rw [decide_eq_true h1, decide_eq_false (show ¬ l.length ≤ 12 by simp at h; omega)]
        rfl
      · unfold plB
        rw [decide_eq_false h1]
        rfl
    rw [hz]
    (repeat (first | (with_reducible first | apply WP_seq | apply WP_region | apply wpl_nil | apply thenQ_n | apply thenQ_ret | apply WP_ret) | (apply wlp; apply pv_assign; exact fB rfl)))
    exact ret_tmp rfl rfl ⟨_, rfl, rfl, hp.keeps⟩
  · have h1 : (kind = 1 ∧ 0 ≤ pool ∧ pool ≤ 60 ∧ 0 ≤ pick ∧ pick ≤ pool) ∧ l.length ≤ 12 := by simp at h; omega
    obtain ⟨h1, h12⟩ := h1
    clear h
    have hB : plB kind pool pick l = (l.all okT && decide (sumT l ≤ 100)) := by
      unfold plB
      rw [decide_eq_true h1, decide_eq_true h12]
      rfl
    rw [hB]
    (repeat (first | (with_reducible first | apply WP_seq | apply WP_block | apply WP_region | apply wpl_nil | apply thenQ_n | apply WP_skip) | (apply wlp; apply pv_assign; exact fI rfl)))
    refine WP_loopS [2, 3, 4, 36, 37, 38, 39, 40, 41, 42, 43, 44, 45, 46, 47, 48, 49, 50, 51, 52, 53, 54, 55, 56, 57, 58, 59, 60, 61, 62, 63, 64, 65, 66] (fun (i : Nat) F => (F.put 4 (.int .i64 (i : Int))).put 3 (.int .i64 (sumT (l.take i)))) (fun i w' => i ≤ l.length ∧ (l.take i).all okT = true ∧ Hp _ [] w' _) (fun i => l.length - i) 0 (put_self (put_self (Same.eq .refl) rfl) rfl) ⟨Nat.zero_le _, rfl, hp⟩ ?_
    clear hp
    rintro u i w1 ⟨hi, hall, hp⟩
    (repeat (first | (with_reducible first | apply WP_seq | apply WP_region | apply wpl_nil | apply thenQ_n) | (apply wlp; ((first | apply pv_move | apply pf_field | (apply pf_load; exact rfl) | (apply pf_len; exact rfl) | apply pv_lss) <;> (first | exact rfl | exact hp.cell 0 rfl rfl)); (first | exact fI rfl | exact fB rfl | exact fP rfl | exact fS rfl))))
    refine WP_cond_d rfl (fun h2 => ?_) (fun h2 => ?_)
    · have hlt : i < l.length := by omega
      obtain ⟨b0, o0, hs0, hc0⟩ := hs.base (by omega)
      have hgi := List.getElem?_eq_getElem hlt
      have hci := hc0 i _ hgi
      have htk := List.take_succ_eq_append_getElem hlt
      generalize l[i] = t at hci htk
      obtain ⟨tm, tp⟩ := t
      have hcp : World.cell? _ ⟨b0, o0 + i * 2 + 1, none⟩ = some (.int .i64 tp) := hci 1 _ rfl
      have hbd := sumT_bd hall
      rw [List.length_take, Nat.min_eq_left (by omega)] at hbd
      (repeat (first | (with_reducible first | apply WP_seq | apply WP_block | apply WP_region | apply wpl_nil | apply thenQ_n | apply WP_skip) | ((first | apply wlp | (apply wlg; exact rfl; exact rfl)); (intros; ((first | apply pv_move | apply pf_field | (apply pf_load; exact rfl) | exact pv_or rfl rfl rfl | apply pv_lss | apply pv_gtr | (apply pf_index; exact rfl)) <;> (first | exact rfl | exact ev_sel rfl (by assumption) | assumption | exact hp.cell 0 rfl rfl | exact hp.old0 (by assumption)))); (intros; (first | exact fI rfl | exact fB rfl | exact fP rfl | exact fS rfl)))))
      refine WP_cond rfl (fun h => ?_) (fun h => ?_)
      · have hz : l.all okT = false := by
          have h4 : (l.take (i + 1)).all okT = false := by
            have h6 : okT (tm, tp) = false := by
              unfold okT
              simp at h ⊢
              omega
            rw [htk, List.all_append]
            simp only [List.all_cons, List.all_nil, h6, Bool.false_and, Bool.and_false]
          cases h5 : l.all okT
          · rfl
          · rw [List.all_eq_true] at h5
            have : (l.take (i + 1)).all okT = true := List.all_eq_true.2 fun x hx => h5 x (List.mem_of_mem_take hx)
            rw [this] at h4
            cases h4
        rw [hz]
        (repeat (first | (with_reducible first | apply WP_seq | apply WP_region | apply wpl_nil | apply thenQ_n | apply thenQ_ret | apply inBlk_ret | apply WP_ret) | (apply wlp; apply pv_assign; exact fB rfl)))
        exact ret_tmp rfl rfl ⟨_, rfl, rfl, hp.keeps⟩
      · have htp : 0 ≤ tp ∧ tp ≤ 100 := by simp at h; omega
        (repeat (first | (with_reducible first | apply WP_region | apply thenQ_n | apply WP_skip) | (apply wlp; ((first | apply pv_move | apply pf_field | (apply pf_load; exact rfl) | (apply pf_index; exact rfl)) <;> (first | exact rfl | assumption | exact hp.cell 0 rfl rfl | exact hp.old0 (by assumption))); (first | exact fI rfl | exact fP rfl | exact fS rfl))))
        (apply wlp; exact pv_add rfl rfl; exact int_eq (i64_in (by omega) (by omega)))
        (repeat (first | (with_reducible first | apply WP_region | apply wpl_nil | apply thenQ_n | apply inBlk_n) | (apply wlp; (first | apply pv_move | apply pv_assign); exact fI rfl)))
        (apply wlp; exact pv_add rfl rfl; exact int_eq (i64_in (by omega) (by omega)))
        (repeat (first | (with_reducible first | apply wpl_nil | apply thenQ_n) | (apply wlp; apply pv_assign; exact fI rfl)))
        refine ⟨i + 1, put_self (put_self (Same.eq (by repeat (first | exact Same.hav | exact Same.refl | refine Same.put rfl ?_ | refine Same.havs rfl ?_))) rfl) (int_eq (by rw [htk, sumT_app]; simp [sumT])), ⟨by omega, ?_, hp⟩, by omega⟩
        rw [htk, List.all_append, hall]
        simp [okT, htp]
    · obtain rfl : i = l.length := by omega
      rw [List.take_length] at hall
      rw [hall, List.take_length]
      (repeat (first | (with_reducible first | apply WP_seq | apply WP_region | apply wpl_nil | apply thenQ_n | apply thenQ_exit | apply WP_ret | apply WP_exit) | ((with_reducible apply inBlk_same); exact rfl) | (apply wlp; ((first | apply pv_move | apply pv_assign | apply pv_leq) <;> exact rfl); (first | exact fI rfl | exact fB rfl))))
      exact ret_tmp rfl rfl ⟨_, rfl, rfl, hp.keeps⟩
theorem c33t (nm : ByteArray) (kind round price pool pick m : Int) (s : Option Addr) (c : Nat) (l : List (Int × Int)) (w : World) (hs : SlAt w 2 eT s l) (hl : l.length ≤ 9223372036854775806) (hB : plB kind pool pick l = true) (hm : 0 ≤ m ∧ m ≤ pick) :
    Ret Tryd.prog 33 [.agg (dw nm kind round price pool pick s l.length c).toArray, .int .i64 m] w (fun v w' => v = .tuple #[RV (chA pool pick m / Nat.gcd (chA pool pick m) (chZ pool pick)) (chZ pool pick / Nat.gcd (chA pool pick m) (chZ pool pick)), .bool true] ∧ Keeps [] w w') := by
  have h1 : kind = 1 ∧ 0 ≤ pool ∧ pool ≤ 60 ∧ 0 ≤ pick ∧ pick ≤ pool := by
    unfold plB at hB
    simp at hB
    omega
  have hf1 : Fit (chZ pick m) := Fit.of (k := 61) (Nat.lt_of_le_of_lt (chZ_le (by omega)) (by decide)) (by decide)
  have hf2 : Fit (chZ (pool - pick) (pick - m)) := Fit.of (k := 61) (Nat.lt_of_le_of_lt (chZ_le (by omega)) (by decide)) (by decide)
  have hf3 : Fit (chZ pool pick) := Fit.of (k := 61) (Nat.lt_of_le_of_lt (chZ_le (by omega)) (by decide)) (by decide)
  have hca : chA pool pick m = chZ pick m * chZ (pool - pick) (pick - m) := by unfold chA; rfl
  have hf4 : Fit (chA pool pick m) := by
    refine Fit.of (k := 61 + 61) ?_ (by decide)
    rw [Nat.pow_add, hca]
    exact Nat.mul_lt_mul'' (Nat.lt_of_le_of_lt (chZ_le (by omega)) (by decide)) (Nat.lt_of_le_of_lt (chZ_le (by omega)) (by decide))
  have hpos : 0 < chZ pool pick := by
    obtain ⟨N, rfl⟩ : ∃ N : Nat, pool = N := ⟨pool.toNat, by omega⟩
    obtain ⟨K, rfl⟩ : ∃ K : Nat, pick = K := ⟨pick.toNat, by omega⟩
    rw [chZ_nat (by omega)]
    exact ch_pos (by omega)
  refine Ret.of_WP Tryd.func33 rfl Tryd.ntmps33 rfl ?_
  have hp := Hp.start (M := []) (w := w)
  (repeat (first | (with_reducible first | apply WP_seq | apply WP_region | apply wpl_nil | apply thenQ_n) | (apply wlp; ((first | apply pv_assign | (apply pf_loadb; exact rfl)) <;> (first | exact rfl | exact hp.agg_blk 1 rfl rfl)); (first | exact fB rfl | exact fA13 rfl)) | (apply wls; (first | exact sbox13 hp rfl | exact salloc3 hp (zeroTy_ok rfl)); rintro _ w ⟨b, rfl, hp⟩)))
  (apply wls; exact st_call rfl ent62 rfl (c62 nm kind round price pool pick s c l _ (hs.keep0 hp.keeps) hl); rintro _ w1 ⟨rfl, hk⟩; have hp := hp.call hk)
  rw [hB]
  skip
  (apply wlp; apply pv_assign; exact fB rfl)
  (repeat (with_reducible first | apply WP_seq | apply WP_region | apply wpl_nil | apply thenQ_n))
  (apply wlp; apply pv_move; exact fB rfl)
  (apply wlp; (apply pv_not <;> exact rfl); exact fB rfl)
  (apply wlp; apply pv_move; exact fB rfl)
  ((apply wlpT; exact rfl; exact rfl); (apply pv_move); (intros; exact fI rfl))
  (apply wlpT; exact rfl; exact rfl; (exact pv_lss rfl rfl); exact bool_eq (b := false) (decide_eq_false (by omega)))
  (apply wlp; exact pv_orF rfl rfl; exact fB rfl)
  (apply wlp; apply pv_move; exact fB rfl)
  ((apply wlpT; exact rfl; exact rfl); (apply pv_move); (intros; exact fI rfl))
  ((apply wlpT; exact rfl; exact rfl); ((apply pf_field <;> exact rfl)); (intros; exact fP rfl))
  ((apply wlpT; exact rfl; exact rfl); (((apply pf_load; exact rfl) <;> (first | exact rfl | exact hp.cell 1 rfl rfl))); (intros; exact fI rfl))
  (apply wlpT; exact rfl; exact rfl; (exact pv_gtr rfl rfl); exact bool_eq (b := false) (decide_eq_false (by omega)))
  (apply wlp; exact pv_orF rfl rfl; exact fB rfl)
  (repeat (with_reducible first | apply wpl_nil | apply thenQ_n))
  refine WP_cond_f rfl ?_
  (repeat (with_reducible first | apply WP_seq | apply thenQ_n | apply WP_skip))
  refine WP_draw mixed (by kernel_rfl) (fun w' => Hp _ _ w' _) hp.drew ?_
  have hp := hp.drew
  (repeat ((apply wdp; exact rfl); (intro w hp; intros; ((first | apply pv_move | apply pf_field | (apply pf_load; exact rfl)) <;> (first | exact rfl | exact hp.cell 1 rfl rfl))); (intros; (first | exact fI rfl | exact fP rfl))))
  (apply wds; exact rfl; exact st_call rfl ent14 rfl (c14 pick m _ (by omega)); rintro _ w2 ⟨rfl, hk⟩; have hp := hp.call hk; refine ⟨hp, ?_⟩)
  (repeat ((apply wdp; exact rfl); (intro w hp; intros; ((first | apply pf_field | (apply pf_load; exact rfl)) <;> (first | exact rfl | exact hp.cell 1 rfl rfl))); (intros; (first | exact fI rfl | exact fP rfl))))
  (apply wdp; exact rfl; (intro w hp; exact pv_sub rfl rfl); exact int_eq (i64_in (by omega) (by omega)))
  (repeat ((apply wdp; exact rfl); (intro w hp; intros; ((first | apply pv_move | apply pf_field | (apply pf_load; exact rfl)) <;> (first | exact rfl | exact hp.cell 1 rfl rfl))); (intros; (first | exact fI rfl | exact fP rfl))))
  (apply wdp; exact rfl; (intro w hp; exact pv_sub rfl rfl); exact int_eq (i64_in (by omega) (by omega)))
  (apply wds; exact rfl; exact st_call rfl ent14 rfl (c14 (pool - pick) (pick - m) _ (by omega)); rintro _ w3 ⟨rfl, hk⟩; have hp := hp.call hk; refine ⟨hp, ?_⟩)
  (apply wds; exact rfl; exact st_call rfl ent43 rfl (c43 (chZ pick m) (chZ (pool - pick) (pick - m)) _ hf1 hf2); rintro _ w4 ⟨rfl, hk⟩; have hp := hp.call hk; refine ⟨hp, ?_⟩)
  rw [← hca]
  (repeat ((apply wdp; exact rfl); (intro w hp; intros; apply pv_assign); (intros; exact fT rfl)))
  refine wpd_nil ?_
  (repeat (first | (with_reducible first | apply WP_seq | apply WP_region | apply thenQ_n) | (apply wlp; ((first | apply pv_move | apply pf_field | (apply pf_load; exact rfl)) <;> (first | exact rfl | exact hp.cell 1 rfl rfl)); (first | exact fI rfl | exact fP rfl | exact fT rfl))))
  (apply wls; exact st_call rfl ent14 rfl (c14 pool pick _ (by omega)))
  rintro _ w5 ⟨rfl, hk⟩
  have hp := hp.call hk
  (apply wls; exact st_call rfl ent63 rfl (c63 (chA pool pick m) (chZ pool pick) _ hf4 hf3 hpos); rintro _ w6 ⟨rfl, hk⟩; have hp := hp.call hk)
  (repeat (apply wlp; (apply pv_extract <;> exact rfl); (first | exact fB rfl | exact fA3 rfl)))
  (apply wls0; exact sstore3 hp 0 rfl rfl rfl rfl (sizeTy_ok rfl) rfl; rintro _ w7 ⟨rfl, hp⟩)
  (repeat (first | (with_reducible first | apply wpl_nil | apply thenQ_n | apply WP_ret) | (apply wlp; apply pv_assign; exact fB rfl)))
  exact ret_cell2 rfl rfl rfl rfl rfl (hp.agg_blk 0 rfl rfl) ⟨_, rfl, rfl, hp.keeps⟩
theorem c33f (nm : ByteArray) (kind round price pool pick m : Int) (s : Option Addr) (c : Nat) (l : List (Int × Int)) (w : World) (hs : SlAt w 2 eT s l) (hl : l.length ≤ 9223372036854775806) (hB : plB kind pool pick l = false ∨ m < 0 ∨ pick < m) :
    Ret Tryd.prog 33 [.agg (dw nm kind round price pool pick s l.length c).toArray, .int .i64 m] w (fun v w' => v = .tuple #[RV 0 0, .bool false] ∧ Keeps [] w w') := by
  refine Ret.of_WP Tryd.func33 rfl Tryd.ntmps33 rfl ?_
  have hp := Hp.start (M := []) (w := w)
  (repeat (first | (with_reducible first | apply WP_seq | apply WP_region | apply wpl_nil | apply thenQ_n) | (apply wlp; ((first | apply pv_assign | (apply pf_loadb; exact rfl)) <;> (first | exact rfl | exact hp.agg_blk 1 rfl rfl)); (first | exact fB rfl | exact fA13 rfl)) | (apply wls; (first | exact sbox13 hp rfl | exact salloc3 hp (zeroTy_ok rfl)); rintro _ w ⟨b, rfl, hp⟩)))
  (apply wls; exact st_call rfl ent62 rfl (c62 nm kind round price pool pick s c l _ (hs.keep0 hp.keeps) hl); rintro _ w1 ⟨rfl, hk⟩; have hp := hp.call hk)
  (repeat (first | (with_reducible first | apply WP_seq | apply WP_region | apply wpl_nil | apply thenQ_n) | ((first | apply wlp | (apply wlg; exact rfl; exact rfl)); (intros; ((first | apply pv_move | apply pv_assign | apply pf_field | (apply pf_load; exact rfl) | exact pv_or rfl rfl rfl | apply pv_lss | apply pv_gtr | apply pv_not) <;> (first | exact rfl | exact ev_sel rfl (by assumption) | exact hp.cell 1 rfl rfl))); (intros; (first | exact fI rfl | exact fB rfl | exact fP rfl)))))
  refine WP_cond rfl (fun _ => ?_) (fun h => ?_)
  · (repeat (first | (with_reducible first | apply WP_seq | apply WP_region | apply wpl_nil | apply thenQ_n | apply thenQ_ret | apply WP_ret) | (apply wlp; ((first | apply pv_assign | (apply pf_build; exact rfl)) <;> exact rfl); (first | exact fB rfl | exact fA3 rfl)) | (apply wls0; exact sstore3 hp 0 rfl rfl rfl rfl (sizeTy_ok rfl) rfl; rintro _ w ⟨rfl, hp⟩)))
    exact ret_cell2 rfl rfl rfl rfl rfl (hp.agg_blk 0 rfl rfl) ⟨_, rfl, by unfold RV; rw [ofN_zero]; rfl, hp.keeps⟩
  · exfalso
    simp at h
    rcases hB with hB | hB | hB
    · rw [hB] at h
      simp at h
    · omega
    · omega
end Go.Proofs.YteklkjnhefnimaaDoor
/- Plain laws for the law of chances: a fraction in lowest terms is determined by its value; Vandermonde's sum; no conditions. -/
namespace Go.Proofs.YteklkjnhefnimaaDoor
open Go.Dig

theorem red_uniq {x y u v : Nat} (hy : 0 < y) (hv : 0 < v) (h : x * v = u * y) : x / Nat.gcd x y = u / Nat.gcd u v ∧ y / Nat.gcd x y = v / Nat.gcd u v := by
  have hg : 0 < Nat.gcd x y := Nat.gcd_pos_of_pos_right x hy
  have hk : 0 < Nat.gcd u v := Nat.gcd_pos_of_pos_right u hv
  have c1 : Nat.gcd (x / Nat.gcd x y) (y / Nat.gcd x y) = 1 := by
    rw [Nat.gcd_div (Nat.gcd_dvd_left x y) (Nat.gcd_dvd_right x y), Nat.div_self hg]
  have c2 : Nat.gcd (u / Nat.gcd u v) (v / Nat.gcd u v) = 1 := by
    rw [Nat.gcd_div (Nat.gcd_dvd_left u v) (Nat.gcd_dvd_right u v), Nat.div_self hk]
  have e1 : Nat.gcd x y * (x / Nat.gcd x y) = x := Nat.mul_div_cancel' (Nat.gcd_dvd_left x y)
  have e2 : Nat.gcd x y * (y / Nat.gcd x y) = y := Nat.mul_div_cancel' (Nat.gcd_dvd_right x y)
  have e3 : Nat.gcd u v * (u / Nat.gcd u v) = u := Nat.mul_div_cancel' (Nat.gcd_dvd_left u v)
  have e4 : Nat.gcd u v * (v / Nat.gcd u v) = v := Nat.mul_div_cancel' (Nat.gcd_dvd_right u v)
  generalize x / Nat.gcd x y = a at *
  generalize y / Nat.gcd x y = b at *
  generalize u / Nat.gcd u v = c at *
  generalize v / Nat.gcd u v = d at *
  generalize Nat.gcd x y = g at *
  generalize Nat.gcd u v = k at *
  subst e1 e2 e3 e4
  have hm : g * k * (a * d) = g * k * (c * b) := by
    calc g * k * (a * d) = g * a * (k * d) := by ac_rfl
      _ = k * c * (g * b) := h
      _ = g * k * (c * b) := by ac_rfl
  have hm2 : a * d = c * b := Nat.eq_of_mul_eq_mul_left (Nat.mul_pos hg hk) hm
  have hb : 0 < b := Nat.pos_of_mul_pos_left hy
  have hbd : b ∣ d := Nat.Coprime.dvd_of_dvd_mul_left (k := b) (m := a) (n := d) (by rw [Nat.coprime_iff_gcd_eq_one, Nat.gcd_comm]; exact c1) ⟨c, by rw [hm2, Nat.mul_comm]⟩
  have hdb : d ∣ b := Nat.Coprime.dvd_of_dvd_mul_left (k := d) (m := c) (n := b) (by rw [Nat.coprime_iff_gcd_eq_one, Nat.gcd_comm]; exact c2) ⟨a, by rw [← hm2, Nat.mul_comm]⟩
  have hbe : b = d := Nat.dvd_antisymm hbd hdb
  subst hbe
  exact ⟨Nat.eq_of_mul_eq_mul_right hb hm2, rfl⟩

/-- the sum of two fractions with one denominator -/
theorem red_add {S A T : Nat} (hT : 0 < T) :
    (S / Nat.gcd S T * (T / Nat.gcd A T) + A / Nat.gcd A T * (T / Nat.gcd S T)) / Nat.gcd (S / Nat.gcd S T * (T / Nat.gcd A T) + A / Nat.gcd A T * (T / Nat.gcd S T)) (T / Nat.gcd S T * (T / Nat.gcd A T)) = (S + A) / Nat.gcd (S + A) T ∧
    T / Nat.gcd S T * (T / Nat.gcd A T) / Nat.gcd (S / Nat.gcd S T * (T / Nat.gcd A T) + A / Nat.gcd A T * (T / Nat.gcd S T)) (T / Nat.gcd S T * (T / Nat.gcd A T)) = T / Nat.gcd (S + A) T := by
  have hg : 0 < Nat.gcd S T := Nat.gcd_pos_of_pos_right S hT
  have hk : 0 < Nat.gcd A T := Nat.gcd_pos_of_pos_right A hT
  have p1 : 0 < T / Nat.gcd S T := Nat.div_pos (Nat.le_of_dvd hT (Nat.gcd_dvd_right S T)) hg
  have p2 : 0 < T / Nat.gcd A T := Nat.div_pos (Nat.le_of_dvd hT (Nat.gcd_dvd_right A T)) hk
  refine red_uniq (Nat.mul_pos p1 p2) hT ?_
  have e1 : Nat.gcd S T * (S / Nat.gcd S T) = S := Nat.mul_div_cancel' (Nat.gcd_dvd_left S T)
  have e2 : Nat.gcd S T * (T / Nat.gcd S T) = T := Nat.mul_div_cancel' (Nat.gcd_dvd_right S T)
  have e3 : Nat.gcd A T * (A / Nat.gcd A T) = A := Nat.mul_div_cancel' (Nat.gcd_dvd_left A T)
  have e4 : Nat.gcd A T * (T / Nat.gcd A T) = T := Nat.mul_div_cancel' (Nat.gcd_dvd_right A T)
  generalize S / Nat.gcd S T = s at *
  generalize A / Nat.gcd A T = a at *
  generalize ht : T / Nat.gcd S T = t at *
  generalize hu : T / Nat.gcd A T = u at *
  generalize Nat.gcd S T = g at *
  generalize Nat.gcd A T = k at *
  have h1 : s * T = S * t := by rw [← e1]; calc s * T = s * (g * t) := by rw [e2]
                                 _ = g * s * t := by ac_rfl
  have h2 : a * T = A * u := by rw [← e3]; calc a * T = a * (k * u) := by rw [e4]
                                 _ = k * a * u := by ac_rfl
  rw [Nat.add_mul, Nat.add_mul]
  congr 1
  · calc s * u * T = s * T * u := by ac_rfl
      _ = S * (t * u) := by rw [h1]; ac_rfl
  · calc a * t * T = a * T * t := by ac_rfl
      _ = A * (t * u) := by rw [h2]; ac_rfl

/-! Vandermonde -/
def sF (f : Nat → Nat) : Nat → Nat
  | 0 => 0
  | m + 1 => sF f m + f m
theorem sF_ext {f g : Nat → Nat} : ∀ (m : Nat), (∀ j, j < m → f j = g j) → sF f m = sF g m
  | 0, _ => rfl
  | m + 1, h => by
    rw [sF, sF, sF_ext m (fun j hj => h j (by omega)), h m (by omega)]
theorem sF_add (f g : Nat → Nat) : ∀ m, sF (fun j => f j + g j) m = sF f m + sF g m
  | 0 => rfl
  | m + 1 => by simp only [sF]; rw [sF_add f g m]; omega
theorem sF_front (f : Nat → Nat) : ∀ m, sF f (m + 1) = f 0 + sF (fun j => f (j + 1)) m
  | 0 => by simp [sF]
  | m + 1 => by
    rw [sF, sF_front f m, sF]
    omega
theorem sF_zero : ∀ m, sF (fun _ => 0) m = 0
  | 0 => rfl
  | m + 1 => by rw [sF, sF_zero m]
theorem vander (b : Nat) : ∀ (a k : Nat), sF (fun j => ch a j * ch b (k - j)) (k + 1) = ch (a + b) k
  | 0, k => by
    rw [sF_front, ch_zero, Nat.sub_zero, Nat.one_mul, Nat.zero_add]
    rw [sF_ext (g := fun _ => 0) k (fun j _ => by rw [ch_gt 0 (j + 1) (by omega), Nat.zero_mul]), sF_zero]
    rfl
  | a + 1, 0 => by
    simp [sF, ch_zero]
  | a + 1, k + 1 => by
    have h1 := vander b a k
    have h2 := vander b a (k + 1)
    rw [sF_front] at h2
    rw [sF_front]
    have e : sF (fun j => ch (a + 1) (j + 1) * ch b (k + 1 - (j + 1))) (k + 1) = sF (fun j => ch a j * ch b (k - j) + ch a (j + 1) * ch b (k + 1 - (j + 1))) (k + 1) := by
      refine sF_ext _ fun j _ => ?_
      rw [ch_pascal, Nat.add_mul]
      rw [show k + 1 - (j + 1) = k - j from by omega]
    rw [e, sF_add, h1, show a + 1 + b = a + b + 1 from by omega, ch_pascal, ← h2]
    rw [ch_zero, ch_zero]
    omega
end Go.Proofs.YteklkjnhefnimaaDoor
/- The law OddsChances returns true; no conditions. -/
namespace Go.Proofs.YteklkjnhefnimaaDoor
open Go.Eng Go.Dig

section
variable {n : Nat} {w0 w : World} {M : List Nat} {L : List Ent} {F : Fr} {d : Option Tmp} {ty : TypeId} {pos : String} {aft : Array Edge} {g : Option (Nat × Bool)} {x y : Operand}
/-- make([]T, m), elements of k cells -/
theorem sf_makeB {t e by_ m k : Nat} {kl kc : IntKind} {z : Value} (cs : List Value) (hp : Hp w0 M w L) (ht : slTy t = some (e, k)) (hz : zeroTy e = some z) (hby : byteTy e = some by_)
    (hx : ev n F x = .int kl m) (hy : ev n F y = .int kc m) (hcs : madeCells z.cells (m * k) = cs.toArray) (hm : m < 1000000000) (hb : Nat.ble by_ 1000 = true) :
    StepF Tryd.prog n ⟨d, .makeSlice t x y, ty, pos, aft, g⟩ F w (fun u w' => ∃ b, u = .slice (some ⟨b, 0, none⟩) m m ∧ Hp w0 M w' (blk b cs.length (frOf cs) e :: L)) := by
  have hty := (slTy_ok ht).1
  have hs := (slTy_ok ht).2
  have hz := zeroTy_ok hz
  obtain ⟨inf, hinf, hib⟩ := (byteTy_ok hby).ex
  have his : inf.size = k := by
    unfold TSize at hs
    simpa [hinf] using hs
  have hiz : inf.zero = some z := by
    unfold TZero at hz
    simpa [hinf] using hz
  have hb' := Nat.le_of_ble_eq_true hb
  have hbm : by_ * m ≤ 1000 * 1000000000 := Nat.mul_le_mul hb' (by omega)
  have hbm' : (inf.bytes : Int) * (m : Int) ≤ 281474976710656 := by
    rw [hib]
    have : ((by_ * m : Nat) : Int) ≤ 281474976710656 := by omega
    rwa [Int.natCast_mul] at this
  have hr := run_make (P := Tryd.prog) w t e inf z hty hinf hiz kl kc m m (by omega) (by omega) hbm' (by omega)
  refine stepF_val (v := .slice (some ⟨w.heap.size, 0, none⟩) m m) (w' := w.alloc (.cells cs.toArray e)) ?_ ⟨w.heap.size, rfl, ?_⟩
  · rw [his] at hr
    simp only [Int.toNat_natCast] at hr
    rw [hcs] at hr
    simp [execOp, hx, hy, hr]
  · exact hp.alloc _ (by rw [← frOf_arr]; rfl)
end

theorem frac_lowS {A B : Nat} (hA : Sm A) (hB : 0 < B) (hB2 : Sm B) : RF (A / Nat.gcd A B) (B / Nat.gcd A B) := by
  have hg : 0 < Nat.gcd A B := Nat.gcd_pos_of_pos_right A hB
  obtain ⟨k, h1, h2⟩ := hA
  obtain ⟨q, h3, h4⟩ := hB2
  refine ⟨⟨k, h1, Nat.lt_of_le_of_lt (Nat.div_le_self _ _) h2⟩, ⟨q, h3, Nat.lt_of_le_of_lt (Nat.div_le_self _ _) h4⟩, ?_, ?_⟩
  · exact Nat.div_pos (Nat.le_of_dvd hB (Nat.gcd_dvd_right A B)) hg
  · rw [Nat.gcd_div (Nat.gcd_dvd_left A B) (Nat.gcd_dvd_right A B), Nat.div_self hg]
theorem sF_mono (f : Nat → Nat) : ∀ {a b : Nat}, a ≤ b → sF f a ≤ sF f b
  | a, 0, h => by
    obtain rfl : a = 0 := by omega
    exact Nat.le_refl _
  | a, b + 1, h => by
    rcases Nat.lt_or_ge b a with h1 | h1
    · obtain rfl : a = b + 1 := by omega
      exact Nat.le_refl _
    · have := sF_mono f h1
      rw [sF]
      omega
/-- the terms of the sum -/
def vT (N K : Nat) (j : Nat) : Nat := ch K j * ch (N - K) (K - j)
theorem vT_sum {N K : Nat} (h : K ≤ N) : sF (vT N K) (K + 1) = ch N K := by
  have := vander (N - K) K K
  rw [show K + (N - K) = N from by omega] at this
  exact this
theorem ch_sm {N K : Nat} (h : N ≤ 60) : Sm (ch N K) := ⟨61, by decide, Nat.lt_of_le_of_lt (ch_le_pow N K) (Nat.pow_lt_pow_of_lt (by decide) (by omega))⟩
theorem Sm.le {a b : Nat} (h : Sm b) (hab : a ≤ b) : Sm a := by
  obtain ⟨k, h1, h2⟩ := h
  exact ⟨k, h1, by omega⟩
/-- the sum of the first chances, times all -/
def sU (N K i : Nat) : Nat := sF (vT N K) (min (i - 1) (K + 1))
theorem sU_le {N K : Nat} (h : K ≤ N) (i : Nat) : sU N K i ≤ ch N K := by
  rw [← vT_sum h]
  exact sF_mono _ (by omega)
theorem chA_vT {N K j : Nat} (hN : N ≤ 60) (hK : K ≤ N) (hj : j ≤ K) : chA (N : Int) (K : Int) (j : Int) = vT N K j := by
  unfold chA vT
  rw [show (N : Int) - (K : Int) = ((N - K : Nat) : Int) from by omega, show (K : Int) - (j : Int) = ((K - j : Nat) : Int) from by omega, chZ_nat (by omega), chZ_nat (by omega)]
theorem vT_le {N K j : Nat} (h : K ≤ N) (hj : j ≤ K) : vT N K j ≤ ch N K := by
  rw [← vT_sum h]
  refine Nat.le_trans ?_ (sF_mono _ (show j + 1 ≤ K + 1 by omega))
  rw [sF]
  omega
theorem made13 : madeCells (Value.agg #[.int .i64 0, .int .i64 0]).cells (13 * 2) = ((List.replicate 13 ((0 : Int), (0 : Int))).flatMap eT).toArray := by
  apply Array.ext'
  have h : ∀ x : Nat, (#[Value.int .i64 0, Value.int .i64 0] : Array Value)[x % 2]! = .int .i64 0 := by
    intro x
    rcases Nat.mod_two_eq_zero_or_one x with h | h <;> rw [h] <;> rfl
  show (Array.map (fun x => (#[Value.int .i64 0, Value.int .i64 0] : Array Value)[x % 2]!) (Array.range 26)).toList = _
  rw [Array.toList_map]
  simp only [h]
  rw [List.map_const', Array.length_toList, Array.size_range]
  rfl
def nLot : ByteArray := ⟨#[108, 111, 116, 116, 111]⟩
theorem plain0 {N K : Nat} (hN : N ≤ 60) (hK : K ≤ N) : plB 1 (N : Int) (K : Int) [] = true := by
  unfold plB
  simp [sumT]
  omega

attribute [local irreducible] PV StepF wpl wpd WP Ret
attribute [local irreducible] Fit RB ofN chZ chA Sm sU ch

/-- the chance of a match, by both sides -/
theorem both {N K : Nat} (hN : N ≤ 60) (hK : K ≤ N) (m : Int) : ∃ x y : Nat,
    (∀ (nm : ByteArray) (a b : Int) (s : Option Addr) (c : Nat) (w : World), Ret Tryd.prog 30 [.agg (dw nm 1 a b (N : Int) (K : Int) s 0 c).toArray, .int .i64 m] w (fun v w' => v = .tuple #[RV x y, .bool (decide (0 ≤ m) && decide (m ≤ (K : Int)))] ∧ Keeps [] w w')) ∧
    (∀ (nm : ByteArray) (a b : Int) (s : Option Addr) (c : Nat) (w : World), Ret Tryd.prog 33 [.agg (dw nm 1 a b (N : Int) (K : Int) s 0 c).toArray, .int .i64 m] w (fun v w' => v = .tuple #[RV x y, .bool (decide (0 ≤ m) && decide (m ≤ (K : Int)))] ∧ Keeps [] w w')) ∧
    (∀ j : Nat, m = j → j ≤ K → x = vT N K j / Nat.gcd (vT N K j) (ch N K) ∧ y = ch N K / Nat.gcd (vT N K j) (ch N K)) := by
  have hz : chZ (N : Int) (K : Int) = ch N K := chZ_nat (by omega)
  by_cases h : 0 ≤ m ∧ m ≤ (K : Int)
  · obtain ⟨j, rfl⟩ : ∃ j : Nat, m = j := ⟨m.toNat, by omega⟩
    have hu : (decide (0 ≤ (j : Int)) && decide ((j : Int) ≤ (K : Int))) = true := by simp; omega
    rw [hu]
    refine ⟨vT N K j / Nat.gcd (vT N K j) (ch N K), ch N K / Nat.gcd (vT N K j) (ch N K), fun nm a b s c w => ?_, fun nm a b s c w => ?_, fun i hi hle => ?_⟩
    rotate_left 2
    · obtain rfl : j = i := by omega
      exact ⟨rfl, rfl⟩
    · have := c30t nm 1 a b (N : Int) (K : Int) (j : Int) s c [] w SlAt_nil (by decide) (plain0 hN hK) h
      rw [hz, chA_vT hN hK (by omega)] at this
      exact this
    · have := c33t nm 1 a b (N : Int) (K : Int) (j : Int) s c [] w SlAt_nil (by decide) (plain0 hN hK) h
      rw [hz, chA_vT hN hK (by omega)] at this
      exact this
  · have hu : (decide (0 ≤ m) && decide (m ≤ (K : Int))) = false := by simp; omega
    rw [hu]
    refine ⟨0, 0, fun nm a b s c w => ?_, fun nm a b s c w => ?_, fun i hi hle => ?_⟩
    · exact c30f nm 1 a b (N : Int) (K : Int) m s c [] w SlAt_nil (by decide) (by omega)
    · exact c33f nm 1 a b (N : Int) (K : Int) m s c [] w SlAt_nil (by decide) (by omega)
    · omega

theorem c10 (pool pick q0 q1 : Int) (w : World) :
    Ret Tryd.prog 10 [.int .i64 pool, .int .i64 pick, .agg #[.int .i64 q0, .int .i64 q1]] w (fun v w' => v = .bool true ∧ Keeps [] w w') := by
  have hN1 := Int.emod_nonneg pool (show (61 : Int) ≠ 0 by decide)
  have hN2 := Int.emod_lt_of_pos pool (show (0 : Int) < 61 by decide)
  have h27 := c27 pool pick [] none 0
  generalize pool % 61 = N' at *
  have hK1 := Int.emod_nonneg pick (show N' + 1 ≠ 0 by omega)
  have hK2 := Int.emod_lt_of_pos pick (show 0 < N' + 1 by omega)
  generalize pick % (N' + 1) = K' at *
  obtain ⟨N, rfl⟩ : ∃ N : Nat, N' = N := ⟨N'.toNat, by omega⟩
  obtain ⟨K, rfl⟩ : ∃ K : Nat, K' = K := ⟨K'.toNat, by omega⟩
  have hN : N ≤ 60 := by omega
  have hK : K ≤ N := by omega
  have hT : 0 < ch N K := ch_pos hK
  have hTs : Sm (ch N K) := ch_sm hN
  refine Ret.of_WP Tryd.func10 rfl Tryd.ntmps10 rfl ?_
  have hp := Hp.start (M := []) (w := w)
  (repeat (with_reducible first | apply WP_seq | apply WP_region))
  (apply wls; exact sbox2 hp rfl; rintro _ w1 ⟨qb, rfl, hp⟩)
  (repeat (first | (with_reducible first | apply WP_seq | apply WP_region | apply wpl_nil | apply thenQ_n) | (apply wlp; apply pv_assign; exact fB rfl)))
  (apply wls; exact st_call rfl ent11 rfl (c11 _); rintro _ w2 ⟨rfl, hk⟩; have hp := hp.call hk)
  (repeat (first | (with_reducible first | apply WP_seq | apply WP_region | apply wpl_nil | apply thenQ_n) | (apply wlp; (first | apply pv_move | apply pv_assign); (first | exact fI rfl | exact fB rfl))))
  (apply wls; exact st_call rfl ent27 rfl (h27 _ SlAt_nil (by decide)); rintro _ w3 ⟨sT, cT, rfl, hvT, hpo⟩; have hp := hp.call hpo.keeps)
  clear hpo hvT
  (apply wls; exact salloc13 hp (zeroTy_ok rfl); rintro _ w4 ⟨db, rfl, hp⟩)
  (apply wls0; exact sstore13 hp 0 rfl rfl rfl rfl (sizeTy_ok rfl) rfl; rintro _ w5 ⟨rfl, hp⟩)
  have hp := hp.norm 0 (dw nLot 1 3 5 N K sT 0 cT) rfl rfl
  (repeat (with_reducible first | apply WP_seq | apply WP_region | apply wpl_nil | apply thenQ_n))
  (apply wls; exact st_call rfl ent32 rfl (c32 0 _ (by decide) (by decide)); rintro _ w6 ⟨rfl, hk⟩; have hp := hp.call hk)
  (apply wls; exact salloc3 hp (zeroTy_ok rfl); rintro _ w7 ⟨sb, rfl, hp⟩)
  (apply wls0; exact sstore3 hp 0 rfl rfl rfl rfl (sizeTy_ok rfl) rfl; rintro _ w8 ⟨rfl, hp⟩)
  have hp := hp.norm 0 [.bool false, .string (ofN 0), .string (ofN 1)] rfl rfl
  have hp : Hp w [] w8 [blk sb 3 (frOf [.bool false, .string (ofN 0), .string (ofN 1)]) 62, blk db 13 (frOf (dw nLot 1 3 5 N K sT 0 cT)) 50, blk qb 2 (frOf [.int .i64 q0, .int .i64 q1]) 68] := hp
  have hs0 : sU N K 0 = 0 := by unfold sU; rw [show min (0 - 1) (K + 1) = 0 from by omega]; rfl
  have hp : Hp w [] w8 [blk sb 3 (frOf [.bool false, .string (ofN (sU N K 0 / Nat.gcd (sU N K 0) (ch N K))), .string (ofN (ch N K / Nat.gcd (sU N K 0) (ch N K)))]) 62, blk db 13 (frOf (dw nLot 1 3 5 N K sT 0 cT)) 50, blk qb 2 (frOf [.int .i64 q0, .int .i64 q1]) 68] := by
    rw [hs0, Nat.gcd_zero_left, Nat.zero_div, Nat.div_self hT]
    exact hp
  clear hs0
  (repeat (first | (with_reducible first | apply WP_seq | apply WP_block | apply WP_region | apply wpl_nil | apply thenQ_n) | (apply wlp; apply pv_assign; exact fI rfl)))
  refine WP_loopS [6, 10, 11, 12, 13, 14, 25, 26, 27, 28, 29, 30, 31, 32, 33, 34, 35, 36, 37, 38, 39, 40, 41, 42, 43, 44, 45, 46, 47, 48, 49, 50, 51, 52, 53, 54, 55, 56, 57, 58, 59, 60, 61, 62, 63, 64, 65, 66, 67] (fun (i : Nat) F => F.put 10 (.int .i64 ((i : Int) - 1)))
    (fun i w' => i ≤ K + 3 ∧ Hp w [] w' [blk sb 3 (frOf [.bool false, .string (ofN (sU N K i / Nat.gcd (sU N K i) (ch N K))), .string (ofN (ch N K / Nat.gcd (sU N K i) (ch N K)))]) 62, blk db 13 (frOf (dw nLot 1 3 5 N K sT 0 cT)) 50, blk qb 2 (frOf [.int .i64 q0, .int .i64 q1]) 68]) (fun i => K + 3 - i) 0 (put_self (Same.eq .refl) rfl) ⟨Nat.zero_le _, hp⟩ ?_
  clear hp
  rintro u i w9 ⟨hi, hp⟩
  (repeat (first | (with_reducible first | apply WP_seq | apply WP_region) | (apply wlp; ((first | apply pv_move | apply pf_field | (apply pf_load; exact rfl)) <;> (first | exact rfl | exact hp.cell 1 rfl rfl)); (first | exact fI rfl | exact fP rfl))))
  (apply wlp; exact pv_add rfl rfl; exact int_eq (i64_in (by omega) (by omega)))
  (repeat (first | (with_reducible first | apply wpl_nil | apply thenQ_n) | (apply wlp; (apply pv_leq <;> exact rfl); exact fB rfl)))
  refine WP_cond_d rfl (fun h => ?_) (fun h => ?_)
  · obtain ⟨x, y, h30, h33, hxy⟩ := both hN hK ((i : Int) - 1)
    (repeat (first | (with_reducible first | apply WP_seq | apply WP_block | apply WP_region | apply thenQ_n | apply WP_skip) | (apply wlp; ((first | apply pv_move | (apply pf_loadb; exact rfl)) <;> (first | exact rfl | exact hp.agg_blk 1 rfl rfl)); (first | exact fI rfl | exact fA13 rfl))))
    (apply wls; exact st_call rfl ent30 rfl (h30 _ _ _ _ _ _); rintro _ w10 ⟨rfl, hk⟩; have hp := hp.call hk)
    (repeat (apply wlp; ((first | apply pv_move | apply pv_extract) <;> exact rfl); (first | exact fB rfl | exact fA3 rfl | exact fU rfl)))
    (apply wls; exact salloc3 hp (zeroTy_ok rfl); rintro _ w11 ⟨ab, rfl, hp⟩)
    (apply wls0; exact sstore3 hp 0 rfl rfl rfl rfl (sizeTy_ok rfl) rfl; rintro _ w12 ⟨rfl, hp⟩)
    have hp := hp.norm 0 [.bool false, .string (ofN x), .string (ofN y)] rfl rfl
    (repeat (first | (with_reducible first | apply WP_seq | apply WP_region | apply wpl_nil | apply thenQ_n) | (apply wlp; ((first | apply pv_move | apply pv_assign | (apply pf_loadb; exact rfl)) <;> (first | exact rfl | exact hp.agg_blk 2 rfl rfl)); (first | exact fI rfl | exact fB rfl | exact fA13 rfl))))
    (apply wls; exact st_call rfl ent33 rfl (h33 _ _ _ _ _ _); rintro _ w13 ⟨rfl, hk⟩; have hp := hp.call hk)
    (repeat (apply wlp; ((first | apply pv_move | apply pv_extract) <;> exact rfl); (first | exact fB rfl | exact fA3 rfl | exact fU rfl)))
    (apply wls; exact salloc3 hp (zeroTy_ok rfl); rintro _ w14 ⟨bb, rfl, hp⟩)
    (apply wls0; exact sstore3 hp 0 rfl rfl rfl rfl (sizeTy_ok rfl) rfl; rintro _ w15 ⟨rfl, hp⟩)
    have hp := hp.norm 0 [.bool false, .string (ofN x), .string (ofN y)] rfl rfl
    have hp : Hp w [] w15 [blk bb 3 (frOf [.bool false, .string (ofN x), .string (ofN y)]) 62, blk ab 3 (frOf [.bool false, .string (ofN x), .string (ofN y)]) 62, blk sb 3 (frOf [.bool false, .string (ofN (sU N K i / Nat.gcd (sU N K i) (ch N K))), .string (ofN (ch N K / Nat.gcd (sU N K i) (ch N K)))]) 62, blk db 13 (frOf (dw nLot 1 3 5 N K sT 0 cT)) 50, blk qb 2 (frOf [.int .i64 q0, .int .i64 q1]) 68] := hp
    (repeat (first | (with_reducible first | apply WP_seq | apply WP_region | apply wpl_nil | apply thenQ_n) | (apply wlp; ((first | apply pv_assign | (apply pf_loadb; exact rfl)) <;> (first | exact rfl | exact hp.agg_blk 0 rfl rfl | exact hp.agg_blk 1 rfl rfl)); (first | exact fB rfl | exact fA3 rfl))))
    (apply wlp; exact pv_ne62 rfl rfl; exact bool_eq (b := false) (by simp))
    (apply wlp; apply pv_move; exact fB rfl)
    ((apply wlpT; exact rfl; exact rfl); (apply pv_move); (intros; exact fB rfl))
    ((apply wlpT; exact rfl; exact rfl); (apply pv_move); (intros; exact fB rfl))
    (apply wlpT; exact rfl; exact rfl; exact pv_bneq Tryd.underlying4 rfl rfl; exact bool_eq (b := false) (by simp))
    (apply wlp; exact pv_orF rfl rfl; exact fB rfl)
    (apply wlp; apply pv_move; exact fB rfl)
    ((apply wlpT; exact rfl; exact rfl); (apply pv_move); (intros; exact fB rfl))
    ((apply wlpT; exact rfl; exact rfl); (apply pv_move); (intros; exact fI rfl))
    (apply wlpT; exact rfl; exact rfl; exact pv_geq rfl rfl; exact fB rfl)
    ((apply wlpT; exact rfl; exact rfl); (apply pv_move); (intros; exact fB rfl))
    ((apply wlg; exact rfl; exact rfl); (intros; apply pv_move); (intros; exact fI rfl))
    ((apply wlg; exact rfl; exact rfl); (intros; (apply pf_field <;> exact rfl)); (intros; exact fP rfl))
    ((apply wlg; exact rfl; exact rfl); (intros; ((apply pf_load; exact rfl) <;> (first | exact ev_sel rfl (by assumption) | exact hp.cell 3 rfl rfl))); (intros; exact fI rfl))
    ((apply wlg; exact rfl; exact rfl); (intros; (apply pv_leq <;> exact ev_sel rfl (by assumption))); (intros; exact fB rfl))
    (apply wlpT; exact rfl; exact rfl; exact pv_and rfl rfl rfl; exact fB rfl)
    (apply wlpT; exact rfl; exact rfl; exact pv_bneq Tryd.underlying4 rfl rfl; exact bool_eq (b := false) (by simp))
    (apply wlp; exact pv_orF rfl rfl; exact fB rfl)
    (repeat (with_reducible first | apply wpl_nil | apply thenQ_n))
    refine WP_cond_f rfl ?_
    (repeat (first | (with_reducible first | apply WP_seq | apply WP_region | apply wpl_nil | apply thenQ_n | apply WP_skip) | (apply wlp; apply pv_move; exact fB rfl)))
    refine WP_cond rfl (fun hu => ?_) (fun hu => ?_)
    · obtain ⟨j, rfl⟩ : ∃ j, i = j + 1 := ⟨i - 1, by simp at hu; omega⟩
      have hjK : j ≤ K := by simp at hu; omega
      obtain ⟨rfl, rfl⟩ := hxy j (by omega) hjK
      have hSle := sU_le hK (j + 1)
      have hS2 : sU N K (j + 1 + 1) = sU N K (j + 1) + vT N K j := by
        unfold sU
        rw [show min (j + 1 + 1 - 1) (K + 1) = j + 1 from by omega, show min (j + 1 - 1) (K + 1) = j from by omega]
        rfl
      have h34 := fun w => c34 _ _ _ _ w (frac_lowS (hTs.le hSle) hT hTs) (frac_lowS (hTs.le (vT_le hK hjK)) hT hTs)
      obtain ⟨r1, r2⟩ := red_add (S := sU N K (j + 1)) (A := vT N K j) hT
      rw [r1, r2, ← hS2] at h34
      (repeat (first | with_reducible apply WP_region | (apply wlp; ((apply pf_loadb; exact rfl) <;> (first | exact rfl | exact hp.agg_blk 1 rfl rfl | exact hp.agg_blk 2 rfl rfl)); exact fA3 rfl)))
      (apply wls; exact st_call rfl ent34 rfl (h34 _); rintro _ w16 ⟨rfl, hk⟩; have hp := hp.call hk)
      (apply wls0; exact sstore3 hp 2 rfl rfl rfl rfl (sizeTy_ok rfl) rfl; rintro _ w17 ⟨rfl, hp⟩)
      have hp := hp.norm 2 [.bool false, .string (ofN (sU N K (j + 1 + 1) / Nat.gcd (sU N K (j + 1 + 1)) (ch N K))), .string (ofN (ch N K / Nat.gcd (sU N K (j + 1 + 1)) (ch N K)))] rfl rfl
      (repeat (first | (with_reducible first | apply WP_region | apply wpl_nil | apply thenQ_n | apply inBlk_n) | (apply wlp; apply pv_move; exact fI rfl)))
      (apply wlp; exact pv_add rfl rfl; exact int_eq (i64_in (by omega) (by omega)))
      (repeat (first | (with_reducible first | apply wpl_nil | apply thenQ_n) | (apply wlp; apply pv_assign; exact fI rfl)))
      exact ⟨j + 1 + 1, put_self (Same.eq (by repeat (first | exact Same.hav | exact Same.refl | refine Same.put rfl ?_ | refine Same.havs rfl ?_))) (int_eq (by omega)), ⟨by omega, hp.tail.tail⟩, by omega⟩
    · have hS2 : sU N K (i + 1) = sU N K i := by
        unfold sU
        congr 1
        simp at hu
        omega
      (repeat (first | (with_reducible first | apply WP_region | apply thenQ_n | apply inBlk_n | apply WP_skip) | (apply wlp; apply pv_move; exact fI rfl)))
      (apply wlp; exact pv_add rfl rfl; exact int_eq (i64_in (by omega) (by omega)))
      (repeat (first | (with_reducible first | apply wpl_nil | apply thenQ_n) | (apply wlp; apply pv_assign; exact fI rfl)))
      refine ⟨i + 1, put_self (Same.eq (by repeat (first | exact Same.hav | exact Same.refl | refine Same.put rfl ?_ | refine Same.havs rfl ?_))) (int_eq (by omega)), ⟨by omega, ?_⟩, by omega⟩
      rw [hS2]
      exact hp.tail.tail
  · obtain rfl : i = K + 3 := by omega
    have hS : sU N K (K + 3) = ch N K := by
      unfold sU
      rw [show min (K + 3 - 1) (K + 1) = K + 1 from by omega]
      exact vT_sum hK
    rw [hS, Nat.gcd_self, Nat.div_self hT] at hp
    have hq := emod_of (n := q1) (show (0 : Int) < 5 by decide)
    have hq5 := Int.emod_nonneg q1 (show (5 : Int) ≠ 0 by decide)
    have hq6 := Int.emod_lt_of_pos q1 (show (0 : Int) < 5 by decide)
    obtain ⟨hq1, hq2, hq3⟩ := hq
    generalize q1 % 5 = r at *
    (repeat (first | (with_reducible first | apply WP_seq | apply WP_region | apply thenQ_n | apply thenQ_exit | apply WP_exit) | ((with_reducible apply inBlk_same); exact rfl) | (apply wlp; ((apply pf_loadb; exact rfl) <;> (first | exact rfl | exact hp.agg_blk 1 rfl rfl)); exact fA13 rfl)))
    (apply wls; exact salloc13 hp (zeroTy_ok rfl); rintro _ w10 ⟨wb, rfl, hp⟩)
    (apply wls0; exact sstore13 hp 0 rfl rfl rfl rfl (sizeTy_ok rfl) rfl; rintro _ w11 ⟨rfl, hp⟩)
    have hp := hp.norm 0 (dw nLot 1 3 5 N K sT 0 cT) rfl rfl
    have hp : Hp w [] w11 [blk wb 13 (frOf (dw nLot 1 3 5 N K sT 0 cT)) 50, blk sb 3 (frOf [.bool false, .string (ofN 1), .string (ofN 1)]) 62, blk db 13 (frOf (dw nLot 1 3 5 N K sT 0 cT)) 50, blk qb 2 (frOf [.int .i64 q0, .int .i64 q1]) 68] := hp
    (repeat (first | (with_reducible first | apply WP_seq | apply WP_region | apply wpl_nil | apply thenQ_n) | (apply wlp; ((apply pf_index_a; exact rfl) <;> exact rfl); skip)))
    (apply wlp; exact pf_index_a (i := 1) rfl rfl rfl (by decide); exact fP rfl)
    (repeat (apply wlp; ((apply pf_load; exact rfl) <;> (first | exact rfl | exact hp.cell 3 rfl rfl)); exact fI rfl))
    (apply wlp; exact pv_rem rfl rfl (by decide); exact fI rfl)
    (apply wlp; exact pv_add rfl rfl; exact int_eq (i64_in (by omega) (by omega)))
    (apply wlp; exact pv_rem rfl rfl (by decide); exact int_eq hq1)
    (repeat (with_reducible first | apply wpl_nil | apply thenQ_n | apply WP_seq))
    refine WP_mid (fun F w' => ∃ (kind po pi : Int) (s : Option Addr) (c : Nat) (l : List (Int × Int)), plB kind po pi l = false ∧ l.length ≤ 13 ∧ (∃ p : Ent, (∀ (w'' : World) (L : List Ent) (i : Nat), Hp w [] w'' L → L[i]? = some p → SlAt w'' 2 eT s l) ∧ Hp w [] w' [blk wb 13 (frOf (dw nLot kind 3 5 po pi s l.length c)) 50, blk sb 3 (frOf [.bool false, .string (ofN 1), .string (ofN 1)]) 62, blk qb 2 (frOf [.int .i64 q0, .int .i64 q1]) 68, p]) ∧ FrHas F [(5, .pointer (some ⟨qb, 0, none⟩)), (7, .bool true), (9, .pointer (some ⟨sb, 0, none⟩)), (15, .pointer (some ⟨wb, 0, none⟩))]) ?_ ?_
    · (repeat (first | (with_reducible first | apply WP_seq | apply WP_block | apply WP_region | apply wpl_nil | apply thenQ_n) | (apply wlp; ((first | apply pv_assign | (apply pv_eql; (first | exact rfl | exact ev_sel rfl (by assumption)))) <;> exact rfl); exact fB rfl)))
      refine WP_cond_d rfl (fun h0 => ?_) (fun h0 => ?_)
      · (repeat (first | with_reducible apply WP_region | (apply wlp; (apply pf_field <;> exact rfl); exact fP rfl)))
        (apply wls0; exact sstore1 hp 0 rfl rfl rfl rfl (sizeTy_ok rfl) rfl; rintro _ w12 ⟨rfl, hp⟩)
        have hp := hp.norm 0 (dw nLot 3 3 5 N K sT 0 cT) rfl rfl
        (repeat (with_reducible first | apply wpl_nil | apply thenQ_n | apply inBlk_n))
        exact ⟨3, N, K, sT, cT, [], by unfold plB; simp, by decide, ⟨(none, fun _ => True), fun _ _ _ _ _ => SlAt_nil, (hp.addNil _).picks [1, 2, 4, 0] _ rfl rfl⟩, rfl, rfl, rfl, rfl, trivial⟩
      (repeat (first | (with_reducible first | apply WP_seq | apply WP_region | apply wpl_nil | apply thenQ_n) | (apply wlp; ((first | apply pv_assign | (apply pv_eql; (first | exact rfl | exact ev_sel rfl (by assumption)))) <;> exact rfl); exact fB rfl)))
      refine WP_cond_d rfl (fun h1 => ?_) (fun h1 => ?_)
      · (repeat (first | with_reducible apply WP_region | (apply wlp; (apply pf_field <;> exact rfl); exact fP rfl)))
        (apply wls0; exact sstore1 hp 0 rfl rfl rfl rfl (sizeTy_ok rfl) rfl; rintro _ w12 ⟨rfl, hp⟩)
        have hp := hp.norm 0 (dw nLot 1 3 5 61 K sT 0 cT) rfl rfl
        (repeat (with_reducible first | apply wpl_nil | apply thenQ_n | apply inBlk_n))
        exact ⟨1, 61, K, sT, cT, [], by unfold plB; simp, by decide, ⟨(none, fun _ => True), fun _ _ _ _ _ => SlAt_nil, (hp.addNil _).picks [1, 2, 4, 0] _ rfl rfl⟩, rfl, rfl, rfl, rfl, trivial⟩
      (repeat (first | (with_reducible first | apply WP_seq | apply WP_region | apply wpl_nil | apply thenQ_n) | (apply wlp; ((first | apply pv_assign | (apply pv_eql; (first | exact rfl | exact ev_sel rfl (by assumption)))) <;> exact rfl); exact fB rfl)))
      refine WP_cond_d rfl (fun h2 => ?_) (fun h2 => ?_)
      · (repeat (first | with_reducible apply WP_region | (apply wlp; ((first | apply pf_field | (apply pf_load; exact rfl)) <;> (first | exact rfl | exact hp.cell 2 rfl rfl)); (first | exact fI rfl | exact fP rfl))))
        (apply wlp; exact pv_add rfl rfl; exact int_eq (i64_in (by omega) (by omega)))
        (repeat (apply wlp; (apply pf_field <;> exact rfl); exact fP rfl))
        (apply wls0; exact sstore1 hp 0 rfl rfl rfl rfl (sizeTy_ok rfl) rfl; rintro _ w12 ⟨rfl, hp⟩)
        have hp := hp.norm 0 (dw nLot 1 3 5 N ((N : Int) + 1) sT 0 cT) rfl rfl
        (repeat (with_reducible first | apply wpl_nil | apply thenQ_n | apply inBlk_n))
        exact ⟨1, N, (N : Int) + 1, sT, cT, [], by unfold plB; rw [decide_eq_false (by omega)]; rfl, by decide, ⟨(none, fun _ => True), fun _ _ _ _ _ => SlAt_nil, (hp.addNil _).picks [1, 2, 4, 0] _ rfl rfl⟩, rfl, rfl, rfl, rfl, trivial⟩
      (repeat (first | (with_reducible first | apply WP_seq | apply WP_region | apply wpl_nil | apply thenQ_n) | (apply wlp; ((first | apply pv_assign | (apply pv_eql; (first | exact rfl | exact ev_sel rfl (by assumption)))) <;> exact rfl); exact fB rfl)))
      refine WP_cond_d rfl (fun h3 => ?_) (fun h3 => ?_)
      · (repeat (first | with_reducible apply WP_region | (apply wlp; ((apply pf_build; exact rfl) <;> exact rfl); exact fA2 rfl)))
        (apply wls; exact sf_slice hp rfl rfl rfl rfl rfl rfl rfl; rintro _ w12 ⟨tb, rfl, hp⟩)
        (repeat (apply wlp; (apply pf_field <;> exact rfl); exact fP rfl))
        (apply wls0; exact sstore1 hp 1 rfl rfl rfl rfl (sizeTy_ok rfl) rfl; rintro _ w13 ⟨rfl, hp⟩)
        have hp := hp.norm 1 (dw nLot 1 3 5 N K (some ⟨tb, 0, none⟩) 2 2) rfl rfl
        (repeat (with_reducible first | apply wpl_nil | apply thenQ_n | apply inBlk_n))
        exact ⟨1, N, K, some ⟨tb, 0, none⟩, 2, [(0, 60), (0, 41)], by unfold plB; simp [sumT, okT], by decide, ⟨_, fun _ _ i hp hi => blk_SlAt [(0, 60), (0, 41)] hp i hi (fun _ => rfl), hp.picks [1, 2, 4, 0] _ rfl rfl⟩, rfl, rfl, rfl, rfl, trivial⟩
      (repeat (first | (with_reducible first | apply WP_seq | apply WP_region | apply wpl_nil | apply thenQ_n) | (apply wlp; ((first | apply pv_assign | (apply pv_eql; (first | exact rfl | exact ev_sel rfl (by assumption)))) <;> exact rfl); exact fB rfl)))
      refine WP_cond_d rfl (fun h4 => ?_) (fun h4 => absurd h4 (by omega))
      (repeat with_reducible apply WP_region)
      (apply wls; exact sf_makeB ((List.replicate 13 ((0 : Int), (0 : Int))).flatMap eT) hp rfl rfl rfl (m := 13) rfl rfl made13 (by decide) rfl; rintro _ w12 ⟨tb, rfl, hp⟩)
      (repeat (apply wlp; (apply pf_field <;> exact rfl); exact fP rfl))
      (apply wls0; exact sstore1 hp 1 rfl rfl rfl rfl (sizeTy_ok rfl) rfl; rintro _ w13 ⟨rfl, hp⟩)
      have hp := hp.norm 1 (dw nLot 1 3 5 N K (some ⟨tb, 0, none⟩) 13 13) rfl rfl
      (repeat (with_reducible first | apply wpl_nil | apply thenQ_n | apply inBlk_n))
      exact ⟨1, N, K, some ⟨tb, 0, none⟩, 13, List.replicate 13 (0, 0), by unfold plB; simp, by simp, ⟨_, fun _ _ i hp hi => blk_SlAt (List.replicate 13 (0, 0)) hp i hi (fun _ => rfl), hp.picks [1, 2, 4, 0] _ rfl rfl⟩, rfl, rfl, rfl, rfl, trivial⟩
    · clear hp
      rintro F w12 ⟨kind, po, pi, s, c, l, hB, hl, ⟨p, hS, hp⟩, hF⟩
      refine WP_fresh _ hF ?_
      intro F0
      clear hF
      have h30 := fun m w' (hw : SlAt w' 2 eT s l) => c30f nLot kind 3 5 po pi m s c l w' hw (by omega) (.inl hB)
      (repeat (first | (with_reducible first | apply WP_seq | apply WP_region) | (apply wlp; ((first | (apply pf_loadb; exact rfl) | (apply pf_index_a; exact rfl)) <;> (first | exact rfl | exact hp.agg_blk 0 rfl rfl)); exact fA13 rfl)))
      (apply wlp; exact pf_index_a (i := 0) rfl rfl rfl (by decide); exact fP rfl)
      (repeat (apply wlp; ((apply pf_load; exact rfl) <;> (first | exact rfl | exact hp.cell 2 rfl rfl)); exact fI rfl))
      (apply wls; exact st_call rfl ent30 rfl (h30 q0 _ (hS _ _ 3 hp rfl)); rintro _ w13 ⟨rfl, hk⟩; have hp := hp.call hk)
      (repeat (apply wlp; ((first | apply pv_move | apply pv_extract) <;> exact rfl); (first | exact fB rfl | exact fA3 rfl | exact fU rfl)))
      (apply wls; exact salloc3 hp (zeroTy_ok rfl); rintro _ w14 ⟨ab, rfl, hp⟩)
      (apply wls0; exact sstore3 hp 0 rfl rfl rfl rfl (sizeTy_ok rfl) rfl; rintro _ w15 ⟨rfl, hp⟩)
      have hp := hp.norm 0 [.bool false, .string (ofN 0), .string (ofN 0)] rfl rfl
      (repeat (first | (with_reducible first | apply WP_seq | apply WP_region | apply wpl_nil | apply thenQ_n) | (apply wlp; ((first | apply pv_assign | (apply pf_loadb; exact rfl)) <;> (first | exact rfl | exact hp.agg_blk 1 rfl rfl)); (first | exact fB rfl | exact fA13 rfl))))
      (apply wls; exact st_call rfl ent30 rfl (h30 0 _ (hS _ _ 4 hp rfl)); rintro _ w16 ⟨rfl, hk⟩; have hp := hp.call hk)
      (repeat (apply wlp; ((first | apply pv_move | apply pv_extract) <;> exact rfl); (first | exact fB rfl | exact fA3 rfl | exact fU rfl)))
      (apply wls; exact salloc3 hp (zeroTy_ok rfl); rintro _ w17 ⟨bb, rfl, hp⟩)
      (apply wls0; exact sstore3 hp 0 rfl rfl rfl rfl (sizeTy_ok rfl) rfl; rintro _ w18 ⟨rfl, hp⟩)
      have hp := hp.norm 0 [.bool false, .string (ofN 0), .string (ofN 0)] rfl rfl
      have hp : Hp w [] w18 [blk bb 3 (frOf [.bool false, .string (ofN 0), .string (ofN 0)]) 62, blk ab 3 (frOf [.bool false, .string (ofN 0), .string (ofN 0)]) 62, blk wb 13 (frOf (dw nLot kind 3 5 po pi s l.length c)) 50, blk sb 3 (frOf [.bool false, .string (ofN 1), .string (ofN 1)]) 62, blk qb 2 (frOf [.int .i64 q0, .int .i64 q1]) 68, p] := hp
      have hz := ofN_zero
      (repeat (first | (with_reducible first | apply WP_seq | apply wpl_nil | apply thenQ_n) | (apply wlp; apply pv_assign; exact fB rfl)))
      refine WP_draw mixed (by kernel_rfl) (fun w' => Hp _ _ w' _) hp.drew ?_
      have hp := hp.drew
      (repeat (first | ((apply wdp; exact rfl); (intro w hp; intros; ((first | apply pv_move | (apply pf_loadb; exact rfl)) <;> (first | exact rfl | exact hp.agg_blk 3 rfl rfl))); (intros; (first | exact fB rfl | exact fA3 rfl))) | ((apply wdpT; exact rfl; exact rfl; exact rfl); (intro w hp; ((first | apply pv_move | (apply pf_loadb; exact rfl)) <;> (first | exact rfl | exact hp.agg_blk 3 rfl rfl))); (intros; (first | exact fB rfl | exact fA3 rfl))) | (apply wdpF; exact rfl; exact rfl; exact rfl; exact rfl) | (apply wdpU; exact rfl; exact rfl; exact rfl)))
      (apply wdsT; exact rfl; exact rfl; exact rfl; exact st_call rfl ent32 rfl (c32 1 _ (by decide) (by decide)); rintro _ w19 ⟨rfl, hk⟩; have hp := hp.call hk; refine ⟨hp, ?_⟩)
      (apply wdpT; exact rfl; exact rfl; exact rfl; (intro w hp; exact pv_eq62 rfl rfl); exact bool_eq (b := true) (by simp))
      (repeat (first | ((apply wdp; exact rfl); (intro w hp; intros; ((first | apply pv_move | (apply pf_loadb; exact rfl) | exact pv_andT rfl rfl | apply pv_not | (apply pf_build; exact rfl)) <;> (first | exact rfl | exact hp.agg_blk 1 rfl rfl))); (intros; (first | exact fB rfl | exact fA3 rfl))) | ((apply wdpT; exact rfl; exact rfl; exact rfl); (intro w hp; ((first | apply pv_move | (apply pf_loadb; exact rfl) | exact pv_andT rfl rfl | apply pv_not | (apply pf_build; exact rfl)) <;> (first | exact rfl | exact hp.agg_blk 1 rfl rfl))); (intros; (first | exact fB rfl | exact fA3 rfl))) | (apply wdpF; exact rfl; exact rfl; exact rfl; exact rfl) | (apply wdpU; exact rfl; exact rfl; exact rfl)))
      (apply wdpT; exact rfl; exact rfl; exact rfl; (intro w hp; exact pv_eq62 rfl rfl); exact bool_eq (b := true) (by rw [hz]; simp))
      (repeat (first | ((apply wdp; exact rfl); (intro w hp; intros; ((first | apply pv_move | (apply pf_loadb; exact rfl) | exact pv_andT rfl rfl | apply pv_not | (apply pf_build; exact rfl)) <;> (first | exact rfl | exact hp.agg_blk 0 rfl rfl))); (intros; (first | exact fB rfl | exact fA3 rfl))) | ((apply wdpT; exact rfl; exact rfl; exact rfl); (intro w hp; ((first | apply pv_move | (apply pf_loadb; exact rfl) | exact pv_andT rfl rfl | apply pv_not | (apply pf_build; exact rfl)) <;> (first | exact rfl | exact hp.agg_blk 0 rfl rfl))); (intros; (first | exact fB rfl | exact fA3 rfl))) | (apply wdpF; exact rfl; exact rfl; exact rfl; exact rfl) | (apply wdpU; exact rfl; exact rfl; exact rfl)))
      (apply wdpT; exact rfl; exact rfl; exact rfl; (intro w hp; exact pv_eq62 rfl rfl); exact bool_eq (b := true) (by rw [hz]; simp))
      (repeat (first | ((apply wdp; exact rfl); (intro w hp; intros; (first | apply pv_assign | exact pv_andT rfl rfl)); (intros; exact fB rfl)) | (apply wdpF; exact rfl; exact rfl; exact rfl; exact rfl) | (apply wdpU; exact rfl; exact rfl; exact rfl)))
      refine wpd_nil ?_
      (repeat (with_reducible first | apply thenQ_n | apply WP_ret))
      exact ret_tmp rfl rfl ⟨_, rfl, rfl, hp.keeps⟩
end Go.Proofs.YteklkjnhefnimaaDoor
