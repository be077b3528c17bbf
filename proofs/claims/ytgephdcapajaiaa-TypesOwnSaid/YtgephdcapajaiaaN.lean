/- Layer 14: the law TypesRaw returns true; conditions: the rules lie in memory, sizes of strings are ints, no list is longer than its room. -/
import Derived.Test.YtgephdcapajaiaaM
namespace Go.Proofs.Ytgephdcapajaiaa
open Go.Eng
theorem chk_iff (d : Dr) : decide ((chk d).1 = ⟨#[]⟩) = decide ((chk d).2 = 0) := by
  unfold chk
  split
  · rename_i i hi
    have h1 := List.find?_some hi
    have h2 : i < 12 := by simpa using List.mem_of_find?_eq_some hi
    unfold clBad at h1
    simp at h1
    have h3 : clN i ≠ ⟨#[]⟩ := by
      have : ∀ j, j < 12 → clN j ≠ ⟨#[]⟩ := by decide
      exact this i h2
    simp [h1.2, h3]
  · rfl
attribute [local irreducible] PV StepF wpl wpd WP Ret
attribute [local irreducible] chk

def cutD (d : Dr) : Dr := { d with tiers := d.tiers.take 15, places := d.places.take 15, quotas := d.quotas.take 15, barred := d.barred.take 15 }
structure DrCap (d : Dr) (a : DrA) : Prop where
  tiers : d.tiers.length ≤ a.cT
  places : d.places.length ≤ a.cP
  quotas : d.quotas.length ≤ a.cQ
  barred : d.barred.length ≤ a.cB

set_option maxHeartbeats 400000 in
theorem c4 (d : Dr) (a : DrA) (kk : Int) (w : World) (hd : DrAt w d a) (hz : DrSz d) (hc : DrCap d a) (hk0 : 0 ≤ kk) (hk1 : kk < 256) : Ret Try.prog 4 [drV d a, .int .u8 kk] w (fun v w' => v = .bool true ∧ Keeps [] w w') := by
  refine Ret.of_WP Try.func4 rfl Try.ntmps4 rfl ?_
  have hp := Hp.start (M := []) (w := w)
  ((repeat (with_reducible first | apply WP_seq | apply WP_region)); apply wls; exact sbox13 hp rfl; rintro _ w1 ⟨db, rfl, hp⟩)
  (repeat (first | (with_reducible first | apply WP_seq | apply WP_region | apply wpl_nil | apply thenQ_n) | (apply wlp; apply pv_assign; exact fB rfl)))
  (apply wls; exact st_call rfl ent10 rfl (c10 _))
  rintro _ w2 ⟨rfl, hk⟩
  have hp := hp.call hk
  (repeat (first | (with_reducible first | apply WP_seq | apply WP_region | apply wpl_nil | apply thenQ_n) | (apply wlp; ((first | apply pv_assign | apply pf_field | (apply pf_load; exact rfl) | (apply pf_len; exact rfl) | apply pv_min) <;> (first | exact rfl | exact hp.cell 0 rfl rfl)); (first | exact fI rfl | exact fB rfl | exact fP rfl | exact fS rfl))))
  (apply wlp; exact pv_sliceTo (h := (d.tiers.take 15).length) rfl rfl ((rfl : _ = Value.int .i64 (min (d.tiers.length : Int) 15)).trans (int_eq (by simp; omega))) (by have := hc.tiers; simp; omega); exact fS rfl)
  (repeat (apply wlp; (apply pf_field <;> exact rfl); exact fP rfl))
  (apply wls0; exact sstore1 hp 0 rfl rfl rfl rfl (sizeTy_ok rfl) rfl; rintro _ w6 ⟨rfl, hp⟩)
  (repeat (first | (with_reducible first | apply WP_seq | apply WP_region | apply wpl_nil | apply thenQ_n) | (apply wlp; ((first | apply pf_field | (apply pf_load; exact rfl) | (apply pf_len; exact rfl) | apply pv_min) <;> (first | exact rfl | exact hp.cell 0 rfl rfl)); (first | exact fI rfl | exact fP rfl | exact fS rfl))))
  (apply wlp; exact pv_sliceTo (h := (d.places.take 15).length) rfl rfl ((rfl : _ = Value.int .i64 (min (d.places.length : Int) 15)).trans (int_eq (by simp; omega))) (by have := hc.places; simp; omega); exact fS rfl)
  (repeat (apply wlp; (apply pf_field <;> exact rfl); exact fP rfl))
  (apply wls0; exact sstore1 hp 0 rfl rfl rfl rfl (sizeTy_ok rfl) rfl; rintro _ w6 ⟨rfl, hp⟩)
  (repeat (first | (with_reducible first | apply WP_seq | apply WP_region | apply wpl_nil | apply thenQ_n) | (apply wlp; ((first | apply pf_field | (apply pf_load; exact rfl) | (apply pf_len; exact rfl) | apply pv_min) <;> (first | exact rfl | exact hp.cell 0 rfl rfl)); (first | exact fI rfl | exact fP rfl | exact fS rfl))))
  (apply wlp; exact pv_sliceTo (h := (d.quotas.take 15).length) rfl rfl ((rfl : _ = Value.int .i64 (min (d.quotas.length : Int) 15)).trans (int_eq (by simp; omega))) (by have := hc.quotas; simp; omega); exact fS rfl)
  (repeat (apply wlp; (apply pf_field <;> exact rfl); exact fP rfl))
  (apply wls0; exact sstore1 hp 0 rfl rfl rfl rfl (sizeTy_ok rfl) rfl; rintro _ w6 ⟨rfl, hp⟩)
  (repeat (first | (with_reducible first | apply WP_seq | apply WP_region | apply wpl_nil | apply thenQ_n) | (apply wlp; ((first | apply pf_field | (apply pf_load; exact rfl) | (apply pf_len; exact rfl) | apply pv_min) <;> (first | exact rfl | exact hp.cell 0 rfl rfl)); (first | exact fI rfl | exact fP rfl | exact fS rfl))))
  (apply wlp; exact pv_sliceTo (h := (d.barred.take 15).length) rfl rfl ((rfl : _ = Value.int .i64 (min (d.barred.length : Int) 15)).trans (int_eq (by simp; omega))) (by have := hc.barred; simp; omega); exact fS rfl)
  (repeat (apply wlp; (apply pf_field <;> exact rfl); exact fP rfl))
  (apply wls0; exact sstore1 hp 0 rfl rfl rfl rfl (sizeTy_ok rfl) rfl; rintro _ w6 ⟨rfl, hp⟩)
  (repeat (first | (with_reducible first | apply WP_seq | apply WP_region | apply wpl_nil | apply thenQ_n) | (apply wlp; ((apply pf_loadb; exact rfl) <;> (first | exact rfl | exact hp.agg_blk 0 rfl rfl)); exact fA13 rfl)))
  (apply wls; exact salloc13 hp (zeroTy_ok rfl); rintro _ w2 ⟨eb, rfl, hp⟩)
  (apply wls0; exact sstore13 hp 0 rfl rfl rfl rfl (sizeTy_ok rfl) rfl; rintro _ w3 ⟨rfl, hp⟩)
  (repeat (first | (with_reducible first | apply WP_seq | apply WP_region | apply wpl_nil | apply thenQ_n) | (apply wlp; apply pv_move; exact fI rfl)))
  (apply wlp; exact pv_rem rfl rfl (by decide); exact fI rfl)
  (repeat (apply wlp; ((first | apply pf_field | apply pf_conv) <;> exact rfl); (first | exact fI rfl | exact fP rfl)))
  (apply wls0; exact sstore1 hp 0 rfl rfl rfl rfl (sizeTy_ok rfl) rfl; rintro _ w6 ⟨rfl, hp⟩)
  (repeat (first | (with_reducible first | apply WP_seq | apply WP_region | apply wpl_nil | apply thenQ_n) | (apply wlp; (apply pf_field <;> exact rfl); exact fP rfl)))
  (apply wls0; exact sstore1 hp 0 rfl rfl rfl rfl (sizeTy_ok rfl) rfl; rintro _ w6 ⟨rfl, hp⟩)
  ((repeat (with_reducible first | apply WP_seq | apply WP_region | apply wpl_nil | apply thenQ_n)); (apply wlp; ((apply pf_loadb; exact rfl) <;> (first | exact rfl | exact hp.agg_blk 1 rfl rfl)); exact fA13 rfl); (apply wlp; ((apply pf_loadb; exact rfl) <;> (first | exact rfl | exact hp.agg_blk 0 rfl rfl)); exact fA13 rfl))
  (apply wlp; exact pf_build_ord rfl rfl rfl rfl rfl rfl; exact fA26 rfl)
  (apply wls; exact st_alloc hp (zeroTy_ok rfl) rfl rfl; rintro _ w2 ⟨tb, rfl, hp⟩)
  (apply wls0; exact st_store hp 0 rfl rfl rfl rfl (sizeTy_ok rfl) rfl rfl; rintro _ w9 ⟨rfl, hp⟩)
  have hk9 := hp.keeps
  have c0 := hp.agg_blk (k := 13) (o := 0) 0 rfl rfl
  have c1 := hp.agg_blk (k := 13) (o := 13) 0 rfl rfl
  clear hp hk
  have hd9 : DrAt w9 (cutD d) a := ⟨SlAt_take (hd.tiers.keep0 hk9) 15, SlAt_take (hd.places.keep0 hk9) 15, SlAt_take (hd.quotas.keep0 hk9) 15, SlAt_take (hd.barred.keep0 hk9) 15⟩
  have hz9 : DrSz (cutD d) := ⟨hz.name, fun p hp => hz.places p (List.mem_of_mem_take hp), fun p hp => hz.quotas p (List.mem_of_mem_take hp)⟩
  have he9 : DrAt w9 { cutD d with kind := IntKind.i64.wrap (kk.tmod 5), name := ⟨#[120]⟩ } a := ⟨hd9.tiers, hd9.places, hd9.quotas, hd9.barred⟩
  have hy9 : DrSz { cutD d with kind := IntKind.i64.wrap (kk.tmod 5), name := ⟨#[120]⟩ } := ⟨by show ByteArray.size ⟨#[120]⟩ ≤ 9223372036854775807; decide, hz9.places, hz9.quotas⟩
  (repeat (first | (with_reducible first | apply WP_seq | apply WP_block | apply WP_region | apply wpl_nil | apply thenQ_n) | (apply wlp; apply pv_assign; exact fI rfl)))
  refine WP_loopS [4, 8, 9, 10, 11, 12, 55, 56, 57, 58, 59, 60, 61, 62, 63, 64, 65, 66, 67, 68, 69, 70, 71, 72, 73, 74, 75, 76, 77, 78, 79, 80, 81, 82, 83, 84, 85, 86, 87] (fun (i : Nat) F => F.put 8 (.int .i64 i)) (fun i w' => i ≤ 2 ∧ Keeps [] w9 w') (fun i => 2 - i) 0 (put_self (Same.eq .refl) rfl) ⟨Nat.zero_le _, .refl⟩ ?_
  rintro u i w10 ⟨hi, hk⟩
  have hp := Hp.of_keeps hk
  (repeat (first | (with_reducible first | apply WP_seq | apply WP_region | apply wpl_nil | apply thenQ_n) | (apply wlp; ((first | apply pv_move | apply pv_lss) <;> exact rfl); (first | exact fI rfl | exact fB rfl))))
  refine WP_cond_d rfl (fun h => ?_) (fun h => ?_)
  · have hi2 : i = 0 ∨ i = 1 := by omega
    have h02 : 0 < 2 := by decide
    have h12 : 1 < 2 := by decide
    rcases hi2 with rfl | rfl
    · ((repeat (with_reducible first | apply WP_seq | apply WP_block | apply WP_region | apply thenQ_n | apply WP_skip)); (apply wlp; apply pv_move; exact fI rfl))
      (apply wlp; exact pf_index_a rfl rfl rfl (by decide); exact fP rfl)
      (apply wlp; (apply pf_loadb; exact rfl; exact rfl; exact rfl; exact fun j v hv => hp.old0 (c0 j v hv)); exact fA13 rfl)
      (apply wls; exact st_call rfl ent13 rfl (c13 (cutD d) a _ (hd9.keep hp.keeps)))
      rintro _ w11 ⟨rfl, hk2⟩
      have hp := hp.call hk2
      ((repeat fail); (apply wlp; apply pv_move; exact fU rfl); (apply wlp; (apply pv_extract <;> exact rfl); exact fT rfl); (apply wlp; (apply pv_extract <;> exact rfl); exact fI rfl); (apply wlp; apply pv_assign; exact fT rfl); (apply wlp; apply pv_assign; exact fI rfl); (repeat (with_reducible first | apply WP_seq | apply WP_region | apply wpl_nil | apply thenQ_n)); (apply wlp; apply pv_move; exact fI rfl))
      (apply wlp; exact pf_index_a rfl rfl rfl (by decide); exact fP rfl)
      (apply wlp; (apply pf_loadb; exact rfl; exact rfl; exact rfl; exact fun j v hv => hp.old0 (c0 j v hv)); exact fA13 rfl)
      (apply wls; exact st_call rfl ent14 rfl (c14 (cutD d) a _ (hd9.keep hp.keeps) hz9))
      rintro _ w12 ⟨rfl, hk3⟩
      have hp := hp.call hk3
      (repeat (first | (with_reducible first | apply WP_seq | apply WP_region | apply wpl_nil | apply thenQ_n) | ((first | apply wlp | (apply wlg; exact rfl; exact rfl)); (intros; ((first | apply pv_move | apply pv_assign | exact pv_or rfl rfl rfl | (apply pv_eql; (first | exact rfl | exact ev_sel rfl (by assumption))) | (apply pv_neq; (first | exact rfl | exact ev_sel rfl (by assumption))) | apply pv_extract | (apply pv_seql; (first | exact rfl | exact ev_sel rfl (by assumption))) | (apply pv_sneq; (first | exact rfl | exact ev_sel rfl (by assumption)))) <;> (first | exact rfl | exact ev_sel rfl (by assumption)))); (intros; (first | exact fI rfl | exact fB rfl | exact fT rfl | exact fU rfl)))))
      (apply wlg; exact rfl; exact rfl; (intro hb; exact pv_bneq Try.underlying4 (ev_sel rfl hb) (ev_sel rfl hb)); (intro hb; exact fB rfl))
      (repeat (first | (with_reducible first | apply wpl_nil | apply thenQ_n) | (apply wlp; exact pv_or rfl rfl rfl; exact fB rfl)))
      refine WP_cond rfl (fun h2 => ?_) (fun h2 => ?_)
      · exfalso
        simp [chk_iff] at h2
      · (repeat (first | (with_reducible first | apply WP_region | apply thenQ_n | apply inBlk_n | apply WP_skip) | (apply wlp; apply pv_move; exact fI rfl)))
        (apply wlp; exact pv_add rfl rfl; exact int_eq (i64_in (by omega) (by omega)))
        (repeat (first | (with_reducible first | apply wpl_nil | apply thenQ_n) | (apply wlp; apply pv_assign; exact fI rfl)))
        exact ⟨1, put_self (Same.eq (by repeat (first | exact Same.hav | exact Same.refl | refine Same.put rfl ?_ | refine Same.havs rfl ?_))) rfl, ⟨by omega, hp.keeps⟩, by omega⟩
    · ((repeat (with_reducible first | apply WP_seq | apply WP_block | apply WP_region | apply thenQ_n | apply WP_skip)); (apply wlp; apply pv_move; exact fI rfl))
      (apply wlp; exact pf_index_a rfl rfl rfl (by decide); exact fP rfl)
      (apply wlp; (apply pf_loadb; exact rfl; exact rfl; exact rfl; exact fun j v hv => hp.old0 (c1 j v hv)); exact fA13 rfl)
      (apply wls; exact st_call rfl ent13 rfl (c13 { cutD d with kind := IntKind.i64.wrap (kk.tmod 5), name := ⟨#[120]⟩ } a _ (he9.keep hp.keeps)))
      rintro _ w11 ⟨rfl, hk2⟩
      have hp := hp.call hk2
      ((repeat fail); (apply wlp; apply pv_move; exact fU rfl); (apply wlp; (apply pv_extract <;> exact rfl); exact fT rfl); (apply wlp; (apply pv_extract <;> exact rfl); exact fI rfl); (apply wlp; apply pv_assign; exact fT rfl); (apply wlp; apply pv_assign; exact fI rfl); (repeat (with_reducible first | apply WP_seq | apply WP_region | apply wpl_nil | apply thenQ_n)); (apply wlp; apply pv_move; exact fI rfl))
      (apply wlp; exact pf_index_a rfl rfl rfl (by decide); exact fP rfl)
      (apply wlp; (apply pf_loadb; exact rfl; exact rfl; exact rfl; exact fun j v hv => hp.old0 (c1 j v hv)); exact fA13 rfl)
      (apply wls; exact st_call rfl ent14 rfl (c14 { cutD d with kind := IntKind.i64.wrap (kk.tmod 5), name := ⟨#[120]⟩ } a _ (he9.keep hp.keeps) hy9))
      rintro _ w12 ⟨rfl, hk3⟩
      have hp := hp.call hk3
      (repeat (first | (with_reducible first | apply WP_seq | apply WP_region | apply wpl_nil | apply thenQ_n) | ((first | apply wlp | (apply wlg; exact rfl; exact rfl)); (intros; ((first | apply pv_move | apply pv_assign | exact pv_or rfl rfl rfl | (apply pv_eql; (first | exact rfl | exact ev_sel rfl (by assumption))) | (apply pv_neq; (first | exact rfl | exact ev_sel rfl (by assumption))) | apply pv_extract | (apply pv_seql; (first | exact rfl | exact ev_sel rfl (by assumption))) | (apply pv_sneq; (first | exact rfl | exact ev_sel rfl (by assumption)))) <;> (first | exact rfl | exact ev_sel rfl (by assumption)))); (intros; (first | exact fI rfl | exact fB rfl | exact fT rfl | exact fU rfl)))))
      (apply wlg; exact rfl; exact rfl; (intro hb; exact pv_bneq Try.underlying4 (ev_sel rfl hb) (ev_sel rfl hb)); (intro hb; exact fB rfl))
      (repeat (first | (with_reducible first | apply wpl_nil | apply thenQ_n) | (apply wlp; exact pv_or rfl rfl rfl; exact fB rfl)))
      refine WP_cond rfl (fun h2 => ?_) (fun h2 => ?_)
      · exfalso
        simp [chk_iff] at h2
      · (repeat (first | (with_reducible first | apply WP_region | apply thenQ_n | apply inBlk_n | apply WP_skip) | (apply wlp; apply pv_move; exact fI rfl)))
        (apply wlp; exact pv_add rfl rfl; exact int_eq (i64_in (by omega) (by omega)))
        (repeat (first | (with_reducible first | apply wpl_nil | apply thenQ_n) | (apply wlp; apply pv_assign; exact fI rfl)))
        exact ⟨2, put_self (Same.eq (by repeat (first | exact Same.hav | exact Same.refl | refine Same.put rfl ?_ | refine Same.havs rfl ?_))) rfl, ⟨by omega, hp.keeps⟩, by omega⟩
  · (repeat (first | (with_reducible first | apply WP_seq | apply WP_region | apply wpl_nil | apply thenQ_n | apply thenQ_exit | apply WP_ret | apply WP_exit) | ((with_reducible apply inBlk_same); exact rfl) | (apply wlp; (first | apply pv_move | apply pv_assign); exact fB rfl)))
    exact ret_tmp rfl rfl ⟨_, rfl, rfl, hk9.trans hk (by simp)⟩
end Go.Proofs.Ytgephdcapajaiaa
