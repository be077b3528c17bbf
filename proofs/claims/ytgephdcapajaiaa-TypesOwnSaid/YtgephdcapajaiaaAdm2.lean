/- Layer 14: the reference's Admit; conditions: rules and entrants lie in memory, the lists are not long, sizes of strings are ints. -/
import Derived.Test.YtgephdcapajaiaaAdm
namespace Go.Proofs.Ytgephdcapajaiaa
open Go.Eng
attribute [local irreducible] PV StepF wpl wpd WP Ret
attribute [local irreducible] chk entC admE admTo

set_option maxHeartbeats 2000000 in
theorem c22 (d : Dr) (a : DrA) (es : List (En × EnA)) (s : Option Addr) (c : Nat) (w0 : World) (hd : DrAt w0 d a) (hz : DrSz d) (hs : SlAt w0 6 eEn s es) (he : ∀ x ∈ es, EnAt w0 x.1 x.2) (hez : ∀ x ∈ es, EnSz x.1) (hn : es.length < 100000) :
    Ret Try.prog 22 [drV d a, .slice s es.length c] w0 (fun v w' => ∃ (ins : List (En × EnA)) (outs : List (Int × Int)) (si : Option Addr) (ci : Nat) (so : Option Addr) (co : Nat), v = .tuple #[.slice si ins.length ci, .slice so outs.length co] ∧
      SVL si ci ins ∧ SVL so co outs ∧ (ins.map (·.1), outs) = adm d (es.map (·.1)) ∧ (∀ y ∈ ins, y ∈ es) ∧ Hp w0 [] w' [ownL eEn 46 6 si ci ins, ownL eT 91 2 so co outs]) := by
  refine Ret.of_WP Try.func22 rfl Try.ntmps22 rfl ?_
  have hp := Hp.start (M := []) (w := w0)
  ((repeat (with_reducible first | apply WP_seq | apply WP_region)); apply wls; exact sbox13 hp rfl; rintro _ w ⟨db, rfl, hp⟩)
  have hp := hp.norm 0 (drC d a) rfl rfl
  (repeat (first | (with_reducible first | apply WP_seq | apply WP_block | apply WP_region | apply wpl_nil | apply thenQ_n) | (apply wlp; apply pv_assign; (first | exact fI rfl | exact fS rfl))))
  have hp := ((hp.nilL eI 3 1).nilL eT 91 2).nilL eEn 46 6
  refine WP_fresh [(1, .slice s es.length c), (2, .pointer (some ⟨db, 0, none⟩)), (6, .slice none 0 0), (7, .slice none 0 0), (8, .slice none 0 0), (9, .int .i64 0)] ⟨rfl, rfl, rfl, rfl, rfl, rfl, trivial⟩ ?_
  intro F0
  refine WP_loopS [6, 7, 8, 9, 10, 11, 12, 13, 14, 15, 16, 17, 18, 19, 20, 21, 22, 23, 24, 25, 26, 27, 28, 29, 30, 31, 32, 33, 34, 35, 36, 37, 38, 39, 40, 41, 42, 43, 44, 45, 46, 47, 48, 49, 50, 51, 52, 53, 54, 55, 56, 57, 58, 59, 60, 61, 62] (fun (x : AdS) F => (((F.put 9 (.int .i64 x.i)).put 6 (.slice x.si x.ins.length x.ci)).put 7 (.slice x.so x.outs.length x.co)).put 8 (.slice x.sd (x.ins.map fun y => y.1.id).length x.cd))
    (fun x w' => x.i ≤ es.length ∧ x.ins.length ≤ x.i ∧ x.outs.length ≤ x.i ∧ SVL x.si x.ci x.ins ∧ SVL x.so x.co x.outs ∧ SVL x.sd x.cd (x.ins.map fun y => y.1.id) ∧ (x.ins.map (·.1), x.outs) = admTo d (es.map (·.1)) x.i ∧ (∀ y ∈ x.ins, y ∈ es) ∧
      Hp w0 [] w' [ownL eEn 46 6 x.si x.ci x.ins, ownL eT 91 2 x.so x.co x.outs, ownL eI 3 1 x.sd x.cd (x.ins.map fun y => y.1.id), blk db 13 (frOf (drC d a)) 30])
    (fun x => es.length - x.i) ⟨0, [], [], none, 0, none, 0, none, 0⟩ (put_self (put_self (put_self (put_self (Same.eq .refl) rfl) rfl) rfl) rfl) ⟨Nat.zero_le _, Nat.le_refl _, Nat.le_refl _, .nil, .nil, .nil, by unfold admTo; rfl, by simp, hp⟩ ?_
  clear hp
  rintro u ⟨i, ins, outs, si, ci, so, co, sd, cd⟩ w ⟨hi, hi1, hi2, hvi, hvo, hvd, hadm, hE, hp⟩
  have hi : i ≤ es.length := hi
  have hi1 : ins.length ≤ i := hi1
  have hi2 : outs.length ≤ i := hi2
  have hvi : SVL si ci ins := hvi
  have hvo : SVL so co outs := hvo
  have hvd : SVL sd cd (ins.map fun y => y.1.id) := hvd
  have hadm : (ins.map (·.1), outs) = admTo d (es.map (·.1)) i := hadm
  have hE : ∀ y ∈ ins, y ∈ es := hE
  have hp : Hp w0 [] w [ownL eEn 46 6 si ci ins, ownL eT 91 2 so co outs, ownL eI 3 1 sd cd (ins.map fun y => y.1.id), blk db 13 (frOf (drC d a)) 30] := hp
  (repeat (first | (with_reducible first | apply WP_seq | apply WP_region | apply wpl_nil | apply thenQ_n) | (apply wlp; ((first | apply pv_move | (apply pf_len; exact rfl) | apply pv_lss) <;> exact rfl); (first | exact fI rfl | exact fB rfl | exact fS rfl))))
  refine WP_cond_d rfl (fun h => ?_) (fun h => ?_)
  · have h : (i : Int) < es.length := h
    have hil : i < es.length := by omega
    obtain ⟨pb, po, hso, hpc⟩ := hs.base (by omega)
    have hcx := hpc i _ (List.getElem?_eq_getElem hil)
    have hxm : es[i] ∈ es := List.getElem_mem hil
    have hge : (es.map (·.1))[i]? = some es[i].1 := by
      rw [List.getElem?_map, List.getElem?_eq_getElem hil]
      rfl
    obtain ⟨x, hx⟩ : ∃ x, x = es[i] := ⟨_, rfl⟩
    rw [← hx] at hcx hxm hge
    obtain ⟨e, ae⟩ := x
    have hax : EnAt w0 e ae := he _ hxm
    have hzx : EnSz e := hez _ hxm
    have hge : (es.map (·.1))[i]? = some e := hge
    have hid : w0.cell? ⟨pb, po + i * 6 + 0, none⟩ = some (.int .i64 e.id) := hcx 0 _ rfl
    (repeat (with_reducible first | apply WP_seq | apply WP_block | apply thenQ_n | apply WP_skip))
    refine WP_draw mixed (by kernel_rfl) (fun w' => Hp _ _ w' _) hp.drew ?_
    have hp := hp.drew
    (repeat ((apply wdp; exact rfl); (intro w hp; intros; ((first | apply pv_move | (apply pf_loadb; exact rfl) | (apply pf_index; exact rfl)) <;> (first | exact rfl | assumption | exact hp.agg_blk 3 rfl rfl))); (intros; (first | exact fI rfl | exact fP rfl | exact fS rfl | exact fA13 rfl))))
    (apply wdp; exact rfl; (intro w hp; exact pf_loads rfl rfl rfl rfl (fun j v hv => hp.old0 (hcx j v hv))); exact (rfl : _ = enV e ae))
    (apply wds; exact rfl; exact st_call rfl ent19 rfl (c19 d a e ae _ (hd.keep hp.keeps) (hax.keep hp.keeps) hz hzx))
    rintro _ w ⟨rfl, hk⟩
    have hp := hp.call hk
    refine ⟨hp, ?_⟩
    (repeat ((apply wdp; exact rfl); (intro w hp; intros; apply pv_assign); (intros; exact fI rfl)))
    refine wpd_nil ?_
    refine thenQ_n ?_
    refine WP_seq ?_
    refine WP_mid (fun F w => Same [6, 7, 8, 9, 10, 11, 12, 13, 14, 15, 16, 17, 18, 19, 20, 21, 22, 23, 24, 25, 26, 27, 28, 29, 30, 31, 32, 33, 34, 35, 36, 37, 38, 39, 40, 41, 42, 43, 44, 45, 46, 47, 48, 49, 50, 51, 52, 53, 54, 55, 56, 57, 58, 59, 60, 61, 62] F (F0.puts [(1, .slice s es.length c), (2, .pointer (some ⟨db, 0, none⟩)), (6, .slice none 0 0), (7, .slice none 0 0), (8, .slice none 0 0), (9, .int .i64 0)]) ∧
      FrHas F [(6, .slice si ins.length ci), (7, .slice so outs.length co), (8, .slice sd (ins.map fun y => y.1.id).length cd), (9, .int .i64 i), (10, .int .i64 (admE d (ins.map fun y => y.1.id) ins.length e)), (1, .slice s es.length c)] ∧ Hp w0 [] w [ownL eEn 46 6 si ci ins, ownL eT 91 2 so co outs, ownL eI 3 1 sd cd (ins.map fun y => y.1.id), blk db 13 (frOf (drC d a)) 30]) ?_ ?_
    · (repeat (first | (with_reducible first | apply WP_seq | apply WP_region | apply wpl_nil | apply thenQ_n) | ((first | apply wlp | (apply wlg; exact rfl; exact rfl)); (intros; ((first | apply pv_move | apply pf_field | (apply pf_load; exact rfl) | exact pv_and rfl rfl rfl | (apply pv_eql; (first | exact rfl | exact ev_sel rfl (by assumption))) | (apply pv_neq; (first | exact rfl | exact ev_sel rfl (by assumption)))) <;> (first | exact rfl | exact ev_sel rfl (by assumption) | exact hp.cell 3 rfl rfl))); (intros; (first | exact fI rfl | exact fB rfl | exact fP rfl)))))
      refine WP_cond rfl (fun h1 => ?_) (fun h1 => ?_)
      · have h1 : (decide (entC d e = 0) && !decide (d.kind = 1)) = true := h1
        (repeat (first | (with_reducible first | apply WP_seq | apply WP_region) | (apply wlp; ((first | apply pv_move | apply pf_field | (apply pf_load; exact rfl) | (apply pf_index; exact rfl)) <;> (first | exact rfl | assumption | exact hp.old0 (by assumption))); (first | exact fI rfl | exact fP rfl | exact fS rfl))))
        (apply wls; exact st_call rfl ent42 rfl (c42 sd cd (ins.map fun y : En × EnA => y.1.id) e.id _ (by rw [List.length_map]; omega) (ownL_At hp 2 rfl hvd (fun _ => rfl))))
        rintro _ w ⟨rfl, hk⟩
        have hp := hp.call hk
        (repeat (with_reducible first | apply wpl_nil | apply thenQ_n))
        refine WP_cond rfl (fun h2 => ?_) (fun h2 => ?_)
        · have h2 : memD e.id (ins.map fun y => y.1.id) = true := h2
          (repeat (first | (with_reducible first | apply WP_region | apply wpl_nil | apply thenQ_n) | (apply wlp; apply pv_assign; exact fI rfl)))
          exact ⟨(by repeat (first | exact Same.hav | exact Same.refl | refine Same.put rfl ?_ | refine Same.havs rfl ?_)), ⟨rfl, rfl, rfl, rfl, int_eq (by unfold admE; rw [if_pos h1, if_pos h2]), rfl, trivial⟩, hp⟩
        · have h2 : memD e.id (ins.map fun y => y.1.id) = false := h2
          (repeat (first | (with_reducible first | apply WP_seq | apply WP_region | apply wpl_nil | apply thenQ_n) | (apply wlp; ((first | apply pv_move | (apply pf_len; exact rfl) | apply pv_geq) <;> exact rfl); (first | exact fI rfl | exact fB rfl | exact fS rfl))))
          refine WP_cond_d rfl (fun h3 => ?_) (fun h3 => ?_)
          · (repeat (first | (with_reducible first | apply WP_region | apply wpl_nil | apply thenQ_n) | (apply wlp; apply pv_assign; exact fI rfl)))
            exact ⟨(by repeat (first | exact Same.hav | exact Same.refl | refine Same.put rfl ?_ | refine Same.havs rfl ?_)), ⟨rfl, rfl, rfl, rfl, int_eq (by unfold admE; rw [if_pos h1, if_neg (by rw [h2]; simp), if_pos h3]), rfl, trivial⟩, hp⟩
          · (repeat (with_reducible first | apply thenQ_n | apply WP_skip))
            exact ⟨(by repeat (first | exact Same.hav | exact Same.refl | refine Same.put rfl ?_ | refine Same.havs rfl ?_)), ⟨rfl, rfl, rfl, rfl, int_eq (by unfold admE; rw [if_pos h1, if_neg (by rw [h2]; simp), if_neg h3]), rfl, trivial⟩, hp⟩
      · have h1 : (decide (entC d e = 0) && !decide (d.kind = 1)) = false := h1
        (repeat (with_reducible first | apply thenQ_n | apply WP_skip))
        exact ⟨(by repeat (first | exact Same.hav | exact Same.refl | refine Same.put rfl ?_ | refine Same.havs rfl ?_)), ⟨rfl, rfl, rfl, rfl, int_eq (by unfold admE; rw [if_neg (by rw [h1]; simp)]), rfl, trivial⟩, hp⟩
    · clear hp hk
      rintro F w ⟨hsame, hF, hp⟩
      rw [puts_self hF]
      (repeat (first | (with_reducible first | apply WP_seq | apply WP_region | apply wpl_nil | apply thenQ_n) | (apply wlp; ((first | apply pv_move | (apply pv_neq; (first | exact rfl | exact ev_sel rfl (by assumption)))) <;> exact rfl); (first | exact fI rfl | exact fB rfl))))
      refine WP_cond_nd rfl (fun hzz => ?_) (fun hzz => ?_)
      · (repeat (first | (with_reducible first | apply WP_seq | apply WP_region) | (apply wlp; ((first | apply pv_move | (apply pf_build; exact rfl)) <;> exact rfl); (first | exact fI rfl | exact fS rfl | exact fA2 rfl))))
        (apply wls; exact sf_slice hp rfl rfl rfl rfl rfl rfl rfl; rintro _ w ⟨nb, rfl, hp⟩)
        (apply wls; exact sf_app1 eT outs ((i : Int), admE d (ins.map fun y => y.1.id) ins.length e) hp 2 0 rfl rfl rfl rfl rfl rfl (fun _ => rfl) rfl rfl rfl hvo rfl rfl (by omega); rintro _ w ⟨s', c', rfl, hv', hp⟩)
        have hp := Hp.tail hp
        (repeat (first | (with_reducible first | apply WP_region | apply wpl_nil | apply thenQ_n | apply thenQ_exit | apply WP_exit) | ((with_reducible apply inBlk_same); exact rfl) | (apply wlp; (first | apply pv_move | apply pv_assign); (first | exact fI rfl | exact fS rfl))))
        (apply wlp; exact pv_add rfl rfl; exact int_eq (i64_in (by omega) (by omega)))
        (repeat (first | (with_reducible first | apply wpl_nil | apply thenQ_n) | (apply wlp; apply pv_assign; exact fI rfl)))
        exact ⟨⟨i + 1, ins, outs ++ [((i : Int), admE d (ins.map fun y => y.1.id) ins.length e)], si, ci, s', c', sd, cd⟩, put_self (put_self (put_self (put_self (Same.eq (by repeat (first | exact hsame | refine Same.put rfl ?_ | refine Same.putB rfl ?_))) rfl) rfl) rfl) rfl,
          ⟨by show i + 1 ≤ es.length; omega, by show ins.length ≤ i + 1; omega, by show (outs ++ [_]).length ≤ i + 1; simp; omega, hvi, hv', hvd, adm_out hadm hge hzz, hE, hp⟩, by show es.length - (i + 1) < es.length - i; omega⟩
      · (repeat (first | (with_reducible first | apply WP_seq | apply WP_region | apply thenQ_n | apply WP_skip) | (apply wlp; ((first | apply pv_move | (apply pf_loadb; exact rfl) | (apply pf_index; exact rfl)) <;> (first | exact rfl | assumption)); (first | exact fI rfl | exact fP rfl | exact fS rfl))))
        (apply wlp; exact pf_loads rfl rfl rfl rfl (fun j v hv => hp.old0 (hcx j v hv)); exact (rfl : _ = enV e ae))
        (apply wls; exact sf_slice hp rfl rfl rfl rfl rfl rfl rfl; rintro _ w ⟨nb, rfl, hp⟩)
        (apply wls; exact sf_app1 eEn ins (e, ae) hp 1 0 rfl rfl rfl rfl rfl rfl (fun _ => rfl) rfl rfl rfl hvi rfl rfl (by omega); rintro _ w ⟨s', c', rfl, hv', hp⟩)
        have hp := Hp.tail hp
        (repeat (first | (with_reducible first | apply WP_region | apply wpl_nil | apply thenQ_n) | (apply wlp; ((first | apply pv_move | apply pv_assign | apply pf_field | (apply pf_load; exact rfl) | (apply pf_index; exact rfl)) <;> (first | exact rfl | assumption | exact hp.old0 (by assumption))); (first | exact fI rfl | exact fP rfl | exact fS rfl))))
        (apply wls; exact sf_slice hp rfl rfl rfl rfl rfl rfl rfl; rintro _ w ⟨nb, rfl, hp⟩)
        (apply wls; exact sf_app1 eI (ins.map fun y => y.1.id) e.id hp 3 0 rfl rfl rfl rfl rfl rfl (fun _ => rfl) rfl rfl rfl hvd rfl rfl (by rw [List.length_map]; omega); rintro _ w ⟨s2, c2, rfl, hv2, hp⟩)
        have hp := Hp.tail hp
        have hmm : (ins ++ [(e, ae)]).map (fun y => y.1.id) = (ins.map fun y => y.1.id) ++ [e.id] := by simp
        (repeat (first | (with_reducible first | apply WP_region | apply wpl_nil | apply thenQ_n | apply inBlk_n) | (apply wlp; (first | apply pv_move | apply pv_assign); (first | exact fI rfl | exact fS rfl))))
        (apply wlp; exact pv_add rfl rfl; exact int_eq (i64_in (by omega) (by omega)))
        (repeat (first | (with_reducible first | apply wpl_nil | apply thenQ_n) | (apply wlp; apply pv_assign; exact fI rfl)))
        refine ⟨⟨i + 1, ins ++ [(e, ae)], outs, s', c', so, co, s2, c2⟩, put_self (put_self (put_self (put_self (Same.eq (by repeat (first | exact hsame | refine Same.put rfl ?_ | refine Same.putB rfl ?_))) rfl) rfl) rfl) (by rw [hmm]; rfl),
          ⟨by show i + 1 ≤ es.length; omega, by show (ins ++ [_]).length ≤ i + 1; simp; omega, by show outs.length ≤ i + 1; omega, hv', hvo, ?_, adm_in hadm hge hzz, snoc_all hE hxm, ?_⟩, by show es.length - (i + 1) < es.length - i; omega⟩
        · show SVL s2 c2 ((ins ++ [(e, ae)]).map fun y => y.1.id)
          rw [hmm]
          exact hv2
        · show Hp w0 [] w [ownL eEn 46 6 s' c' (ins ++ [(e, ae)]), ownL eT 91 2 so co outs, ownL eI 3 1 s2 c2 ((ins ++ [(e, ae)]).map fun y => y.1.id), blk db 13 (frOf (drC d a)) 30]
          rw [hmm]
          exact hp
  · have h : ¬ (i : Int) < es.length := h
    have hil : i = es.length := by omega
    (repeat (first | (with_reducible first | apply WP_seq | apply WP_region | apply wpl_nil | apply thenQ_n | apply thenQ_exit | apply WP_ret | apply WP_exit) | ((with_reducible apply inBlk_same); exact rfl) | (apply wlp; (first | apply pv_move | apply pv_assign); exact fS rfl)))
    refine ret_tmp2 rfl rfl rfl ⟨_, rfl, ins, outs, si, ci, so, co, rfl, hvi, hvo, ?_, hE, hp.takeN 2⟩
    unfold adm
    rw [List.length_map, ← hil]
    exact hadm
end Go.Proofs.Ytgephdcapajaiaa
