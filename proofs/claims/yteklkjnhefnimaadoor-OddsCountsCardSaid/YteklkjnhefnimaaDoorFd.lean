/- The law OddsCounts returns true; conditions: arguments that are bytes and a number below 2^16. -/
import Derived.Test.YteklkjnhefnimaaDoorFb
import Derived.Test.YteklkjnhefnimaaDoorNf
namespace Go.Proofs.YteklkjnhefnimaaDoor
open Go.Eng Go.Dig

theorem frac_low {A B : Nat} (hA : A < 2 ^ 32) (hB : 0 < B) (hB2 : B < 2 ^ 32) : RF (A / Nat.gcd A B) (B / Nat.gcd A B) := by
  have hg : 0 < Nat.gcd A B := Nat.gcd_pos_of_pos_right A hB
  refine ⟨lt1000 (Nat.lt_of_le_of_lt (Nat.div_le_self _ _) hA), lt1000 (Nat.lt_of_le_of_lt (Nat.div_le_self _ _) hB2), ?_, ?_⟩
  · exact Nat.div_pos (Nat.le_of_dvd hB (Nat.gcd_dvd_right A B)) hg
  · rw [Nat.gcd_div (Nat.gcd_dvd_left A B) (Nat.gcd_dvd_right A B), Nat.div_self hg]

attribute [local irreducible] PV StepF wpl wpd WP Ret
attribute [local irreducible] Fit RB

theorem c9 (a b n : Nat) (w : World) (hn : n < 65536) :
    Ret Tryd.prog 9 [.int .u8 (a : Int), .int .u8 (b : Int), .int .u16 (n : Int)] w (fun v w' => v = .bool true ∧ Keeps [] w w') := by
  obtain ⟨p, hp9⟩ : ∃ p, p = a % 9 := ⟨_, rfl⟩
  obtain ⟨k, hk9⟩ : ∃ k, k = b % 9 := ⟨_, rfl⟩
  have hp60 : p < 9 := by omega
  have hk60 : k < 9 := by omega
  have hch := ch_small (k := k) hp60
  have hfc : Fit (ch p k) := ch_fit (by omega)
  have hcz : chZ (p : Int) (k : Int) = ch p k := chZ_nat (by omega)
  refine Ret.of_WP Tryd.func9 rfl Tryd.ntmps9 rfl ?_
  have hp := Hp.start (M := []) (w := w)
  (repeat (first | (with_reducible first | apply WP_seq | apply WP_region | apply wpl_nil | apply thenQ_n) | (apply wlp; apply pv_assign; exact fB rfl)))
  (apply wls; exact st_call rfl ent11 rfl (c11 _); rintro _ w1 ⟨rfl, hk⟩; have hp := hp.call hk)
  (repeat (first | (with_reducible first | apply WP_seq | apply WP_region | apply wpl_nil | apply thenQ_n) | (apply wlp; (first | apply pv_move | apply pv_assign); (first | exact fI rfl | exact fB rfl))))
  (apply wlp; exact pn_rem8 (b := 9) rfl rfl (by decide); exact int_eq (b := (p : Int)) (by rw [hp9]))
  (apply wlp; exact pf_conv rfl rfl rfl; exact int_eq (b := (p : Int)) (i64_in (by omega) (by omega)))
  (repeat (apply wlp; apply pv_move; exact fI rfl))
  (apply wlp; exact pn_rem8 (b := 9) rfl rfl (by decide); exact int_eq (b := (k : Int)) (by rw [hk9]))
  (apply wlp; exact pf_conv rfl rfl rfl; exact int_eq (b := (k : Int)) (i64_in (by omega) (by omega)))
  (repeat (first | (with_reducible first | apply WP_seq | apply WP_region | apply wpl_nil | apply thenQ_n) | (apply wlp; ((first | apply pv_move | apply pv_assign | apply pv_gtr) <;> exact rfl); (first | exact fI rfl | exact fB rfl))))
  refine WP_cond_d rfl (fun h => ?_) (fun h => ?_)
  · (repeat (first | (with_reducible first | apply WP_seq | apply WP_region | apply wpl_nil | apply thenQ_n | apply thenQ_ret | apply WP_ret) | (apply wlp; (first | apply pv_move | apply pv_assign); exact fB rfl)))
    exact ret_tmp rfl rfl ⟨_, rfl, rfl, hp.keeps⟩
  have hkp : k ≤ p := by omega
  have hcp : 0 < ch p k := ch_pos hkp
  (repeat (first | (with_reducible first | apply WP_seq | apply WP_region | apply thenQ_n | apply WP_skip) | (apply wlp; ((first | apply pv_move | (apply pf_build; exact rfl)) <;> exact rfl); (first | exact fI rfl | exact fA13 rfl))))
  (apply wls; exact salloc13 hp (zeroTy_ok rfl); rintro _ w2 ⟨db, rfl, hp⟩)
  (apply wls0; exact sstore13 hp 0 rfl rfl rfl rfl (sizeTy_ok rfl) rfl; rintro _ w3 ⟨rfl, hp⟩)
  have hp := hp.norm 0 (dw ⟨#[]⟩ 1 0 0 p k none 0 0) rfl rfl
  have hp : Hp w [] w3 [blk db 13 (frOf (dw ⟨#[]⟩ 1 0 0 p k none 0 0)) 50] := hp
  (repeat (first | (with_reducible first | apply WP_seq | apply WP_region | apply wpl_nil | apply thenQ_n) | (apply wlp; apply pv_move; exact fI rfl)))
  (apply wls; exact st_call rfl ent12 rfl (c12 (p : Int) (k : Int) _ (by omega)); rintro _ w4 ⟨rfl, hk⟩; have hp := hp.call hk)
  rw [hcz]
  (apply wls; exact st_call rfl ent29 rfl (c29 (ch p k) _ (by omega)); rintro _ w5 ⟨rfl, hk⟩; have hp := hp.call hk)
  (repeat (first | (with_reducible first | apply WP_seq | apply WP_region | apply wpl_nil | apply thenQ_n) | ((first | apply wlp | (apply wlg; exact rfl; exact rfl)); (intros; ((first | apply pv_move | apply pv_assign | exact pv_orF rfl rfl | apply pv_lss | apply pv_not | apply pv_extract) <;> exact rfl)); (intros; (first | exact fI rfl | exact fB rfl | exact fU rfl)))))
  refine WP_cond rfl (fun h => ?_) (fun _ => ?_)
  · exfalso
    simp at h
    omega
  obtain ⟨g, hg⟩ : ∃ g, g = n % ch p k := ⟨_, rfl⟩
  have hgl : g < ch p k := by rw [hg]; exact Nat.mod_lt _ hcp
  (repeat (with_reducible first | apply WP_seq | apply WP_region | apply thenQ_n | apply WP_skip))
  (apply wlp; apply pv_move; exact fI rfl)
  (apply wlp; apply pv_move; exact fI rfl)
  (apply wlp; apply pv_move; exact fI rfl)
  (apply wlp; exact pf_conv rfl rfl rfl; exact int_eq (b := (n : Int)) (i64_in (by omega) (by omega)))
  (repeat (apply wlp; apply pv_move; exact fI rfl))
  (apply wlp; exact pn_rem8 rfl rfl hcp; exact int_eq (b := (g : Int)) (by rw [hg]))
  (apply wls; exact st_call rfl ent13 rfl (c13 (g : Int) _ (by omega)); rintro _ w6 ⟨rfl, hk⟩; have hp := hp.call hk)
  rw [Int.toNat_natCast]
  (apply wls; exact st_call rfl ent19 rfl (c19 (p : Int) (k : Int) g _ (Fit.small (by omega))); rintro _ w7 ⟨s, c, rfl, hv, hpo⟩; have hp := hp.join hpo)
  obtain ⟨hB, hZ⟩ := unZ_in (p := p) (k := k) (n := g) (by omega) hgl
  rw [hB, hZ]
  rw [hZ] at hv hp
  clear hpo
  have hGl := un_len p p k g hgl
  have hcall := cU_all hgl
  generalize un p p k g = G at hv hp hGl hcall
  have hp : Hp w [] w7 [ownL eI 3 1 s c G, blk db 13 (frOf (dw ⟨#[]⟩ 1 0 0 p k none 0 0)) 50] := hp
  (repeat (first | (with_reducible first | apply WP_seq | apply WP_region | apply wpl_nil | apply thenQ_n) | (apply wlp; ((first | apply pv_move | apply pv_assign | apply pv_extract) <;> exact rfl); (first | exact fI rfl | exact fB rfl | exact fS rfl | exact fU rfl))))
  (apply wlp; (exact pv_add rfl rfl); exact int_eq (b := ((k + 1 : Nat) : Int)) (by rw [i64_in (by omega) (by omega)]; omega))
  (apply wls; exact sf_make eI 0 hp rfl rfl rfl rfl rfl rfl rfl (by omega) rfl; rintro _ w8 ⟨mg, rfl, hvm, hp⟩)
  have hp : Hp w [] w8 [ownL eI 3 1 (some ⟨mg, 0, none⟩) (k + 1) (List.replicate (k + 1) 0), ownL eI 3 1 s c G, blk db 13 (frOf (dw ⟨#[]⟩ 1 0 0 p k none 0 0)) 50] := hp
  (repeat (first | (with_reducible first | apply WP_seq | apply WP_block | apply WP_region | apply wpl_nil | apply thenQ_n) | (apply wlp; apply pv_assign; (first | exact fI rfl | exact fS rfl))))
  refine WP_loop2 [6, 16, 17, 18, 19, 64, 65, 66, 67, 68, 69, 70, 71, 72, 73, 74, 75, 76, 77, 78, 79, 80, 81, 82, 83, 84, 85, 86, 87, 88, 89, 90, 91, 92, 93, 94, 95] (fun (r : Nat) (_z : List Int) F => F.put 16 (.int .i64 (r : Int)))
    (fun r z w' => r ≤ ch p k ∧ z.length = k + 1 ∧ (∀ m, m ≤ k → z[m]? = some ((cU p G p k m r : Nat) : Int)) ∧ SVL (some ⟨mg, 0, none⟩) (k + 1) z ∧ Hp w [] w' [ownL eI 3 1 (some ⟨mg, 0, none⟩) (k + 1) z, ownL eI 3 1 s c G, blk db 13 (frOf (dw ⟨#[]⟩ 1 0 0 p k none 0 0)) 50]) (fun r _ => ch p k - r) 0 (List.replicate (k + 1) 0)
    (put_self (Same.eq .refl) rfl) ⟨Nat.zero_le _, by simp, ?_, hvm, hp⟩ ?_
  · intro m hm
    rw [List.getElem?_replicate, if_pos (by omega)]
    rfl
  clear hp hvm
  rintro u r z w9 ⟨hr, hzl, hz, hvm, hp⟩
  (repeat (first | (with_reducible first | apply WP_seq | apply WP_region | apply wpl_nil | apply thenQ_n) | ((first | apply wlp | (apply wlg; exact rfl; exact rfl)); (intros; ((first | apply pv_move | exact pv_and rfl rfl rfl | apply pv_lss) <;> exact rfl)); (intros; (first | exact fI rfl | exact fB rfl)))))
  refine WP_cond rfl (fun h => ?_) (fun h => ?_)
  · have hrl : r < ch p k := by simp at h; omega
    have hul := un_len p p k r hrl
    have hnd := (incr_nodup (un_incr p p k r (Nat.le_refl _))).2
    have hmh := matchN_hit (G := G) hnd
    have hhl : hit G (un p p k r) ≤ k := by
      have h1 : hit G (un p p k r) ≤ (un p p k r).length := List.countP_le_length
      omega
    (repeat (first | (with_reducible first | apply WP_seq | apply WP_block | apply WP_region | apply thenQ_n | apply WP_skip) | (apply wlp; apply pv_move; exact fI rfl)))
    (apply wls; exact st_call rfl ent13 rfl (c13 (r : Int) _ (by omega)); rintro _ w10 ⟨rfl, hk⟩; have hp := hp.call hk)
    rw [Int.toNat_natCast]
    (apply wls; exact st_call rfl ent19 rfl (c19 (p : Int) (k : Int) r _ (Fit.small (by omega))); rintro _ w11 ⟨s2, c2, rfl, hv2, hpo⟩; have hp := hp.call hpo.keeps)
    obtain ⟨hB2, hZ2⟩ := unZ_in (p := p) (k := k) (n := r) (by omega) hrl
    rw [hB2, hZ2]
    rw [hZ2] at hv2 hpo
    have hs2 : SlAt w11 1 eI s2 (un p p k r) := ownL_At hpo 0 rfl hv2 (fun _ => rfl)
    have hsG : SlAt w11 1 eI s G := ownL_At hp 1 rfl hv (fun _ => rfl)
    clear hpo
    have h25 := c25 G (un p p k r) s s2 c c2 w11 hsG hs2 (by omega) (by omega)
    rw [hmh] at h25
    have hcs := fun m => cU_succ p G p k m r
    generalize hit G (un p p k r) = m0 at h25 hhl hcs
    have hm1 : m0 < k + 1 := by omega
    have hmz : m0 < z.length := by omega
    have hzm := hz m0 hhl
    have hcz2 : w11.cell? ⟨mg, 0 + m0 * 1, none⟩ = some (.int .i64 ((cU p G p k m0 r : Nat) : Int)) := own_elem hp 0 rfl hvm (fun _ => rfl) hzm 0 _ rfl
    have hcle := cU_le p G p k m0 r
    (repeat (first | (with_reducible first | apply WP_seq | apply WP_region | apply wpl_nil | apply thenQ_n) | (apply wlp; ((first | apply pv_move | apply pv_assign | apply pv_extract) <;> exact rfl); (first | exact fB rfl | exact fS rfl | exact fU rfl))))
    (apply wls; exact st_call rfl ent25 rfl h25; rintro _ w12 ⟨rfl, hk⟩; have hp := hp.call hk; have hcz2 := hk.cell hcz2 (by simp))
    (repeat (first | (with_reducible first | apply WP_seq | apply WP_region | apply wpl_nil | apply thenQ_n) | ((first | apply wlp | (apply wlg; exact rfl; exact rfl)); (intros; ((first | apply pv_move | apply pv_assign | exact pv_orF rfl rfl | apply pv_lss | apply pv_gtr) <;> exact rfl)); (intros; (first | exact fI rfl | exact fB rfl)))))
    refine WP_cond rfl (fun h => ?_) (fun _ => ?_)
    · exfalso
      simp at h
      omega
    (repeat (first | (with_reducible first | apply WP_region | apply thenQ_n | apply WP_skip) | (apply wlp; ((first | apply pv_move | (apply pf_load; exact rfl) | (apply pf_index; exact rfl)) <;> (first | exact rfl | assumption)); (first | exact fI rfl | exact fP rfl | exact fS rfl))))
    (apply wlp; exact pv_add rfl rfl; exact int_eq (i64_in (by omega) (by omega)))
    (repeat (apply wlp; ((apply pf_index; exact rfl) <;> (first | exact rfl | assumption)); exact fP rfl))
    (apply wls0; exact st_setL eI z m0 _ hp 0 rfl hvm hmz rfl rfl (fun _ => rfl) rfl rfl (sizeTy_ok rfl); rintro _ w13 ⟨rfl, hp⟩)
    (repeat (first | (with_reducible first | apply WP_region | apply wpl_nil | apply thenQ_n | apply inBlk_n) | (apply wlp; apply pv_move; exact fI rfl)))
    (apply wlp; exact pv_add rfl rfl; exact int_eq (i64_in (by omega) (by omega)))
    (repeat (first | (with_reducible first | apply wpl_nil | apply thenQ_n) | (apply wlp; apply pv_assign; exact fI rfl)))
    refine ⟨r + 1, _, put_self (Same.eq (by repeat (first | exact Same.hav | exact Same.refl | refine Same.put rfl ?_ | refine Same.havs rfl ?_))) rfl, ⟨by omega, by rw [List.length_set, hzl], ?_, hvm.set _ _, hp⟩, by omega⟩
    intro m hm
    rw [List.getElem?_set, hcs m]
    by_cases hmm : m0 = m
    · subst hmm
      rw [if_pos rfl, if_pos hmz, if_pos rfl]
      rfl
    · rw [if_neg hmm, if_neg hmm, hz m hm]
      rfl
  · obtain rfl : r = ch p k := by simp at h; omega
    (repeat (first | (with_reducible first | apply WP_seq | apply WP_block | apply WP_region | apply wpl_nil | apply thenQ_n | apply thenQ_exit | apply WP_exit) | ((with_reducible apply inBlk_same); exact rfl) | (apply wlp; apply pv_assign; exact fI rfl)))
    refine WP_loopS [6, 20, 21, 22, 96, 97, 98, 99, 100, 101, 102, 103, 104, 105, 106, 107, 108, 109, 110, 111, 112, 113, 114, 115, 116, 117, 118, 119, 120] (fun (m : Nat) F => F.put 20 (.int .i64 (m : Int)))
      (fun m w' => m ≤ k + 1 ∧ Hp w [] w' [ownL eI 3 1 (some ⟨mg, 0, none⟩) (k + 1) z, ownL eI 3 1 s c G, blk db 13 (frOf (dw ⟨#[]⟩ 1 0 0 p k none 0 0)) 50]) (fun m => k + 1 - m) 0 (put_self (Same.eq .refl) rfl) ⟨Nat.zero_le _, hp⟩ ?_
    clear hp
    rintro u2 m w10 ⟨hm, hp⟩
    (repeat (first | (with_reducible first | apply WP_seq | apply WP_region | apply wpl_nil | apply thenQ_n) | (apply wlp; ((first | apply pv_move | apply pv_leq) <;> exact rfl); (first | exact fI rfl | exact fB rfl))))
    refine WP_cond_d rfl (fun h3 => ?_) (fun h3 => ?_)
    · have hmk : m ≤ k := by omega
      have hzm := hz m hmk
      rw [hcall m hmk] at hzm
      have hchA : chA (p : Int) (k : Int) (m : Int) = ch k m * ch (p - k) (k - m) := by
        unfold chA
        rw [show (p : Int) - (k : Int) = ((p - k : Nat) : Int) from by omega, show (k : Int) - (m : Int) = ((k - m : Nat) : Int) from by omega, chZ_nat (by omega), chZ_nat (by omega)]
      have h30 := c30t ⟨#[]⟩ 1 0 0 (p : Int) (k : Int) (m : Int) none 0 [] w10 SlAt_nil (by decide) (by unfold plB; simp [sumT]; omega) (by omega)
      rw [hchA, hcz] at h30
      have hA : ch k m * ch (p - k) (k - m) < 2 ^ 32 := by
        have h1 := ch_small (k := m) hk60
        have h2 := ch_small (p := p - k) (k := k - m) (by omega)
        have h3 : ch k m * ch (p - k) (k - m) ≤ 200 * 200 := Nat.mul_le_mul (by omega) (by omega)
        have h4 : (2 : Nat) ^ 32 = 4294967296 := by decide
        omega
      have hrf := frac_low hA hcp (Nat.lt_trans hch (by decide))
      obtain ⟨hq1, hq2⟩ := frac_mul (A := ch k m * ch (p - k) (k - m)) hcp
      have hA2 : ch k m * ch (p - k) (k - m) < 1000000 := by
        have h1 := ch_small (k := m) hk60
        have h2 := ch_small (p := p - k) (k := k - m) (by omega)
        have h3 : ch k m * ch (p - k) (k - m) ≤ 200 * 200 := Nat.mul_le_mul (by omega) (by omega)
        omega
      generalize ch k m * ch (p - k) (k - m) = A at *
      generalize A / Nat.gcd A (ch p k) = cn at *
      generalize ch p k / Nat.gcd A (ch p k) = cd at *
      have h31 := fun w => c31 cn cd (ch p k) 1 w hrf (RF_one (by omega))
      rw [hq1, hq2] at h31
      (repeat (first | (with_reducible first | apply WP_seq | apply WP_block | apply WP_region | apply thenQ_n | apply WP_skip) | (apply wlp; ((first | apply pv_move | (apply pf_loadb; exact rfl)) <;> (first | exact rfl | exact hp.agg_blk 2 rfl rfl)); (first | exact fI rfl | exact fA13 rfl))))
      (apply wls; exact st_call rfl ent30 rfl h30; rintro _ w11 ⟨rfl, hk⟩; have hp := hp.call hk)
      (repeat (apply wlp; ((first | apply pv_move | apply pv_extract) <;> exact rfl); (first | exact fB rfl | exact fA3 rfl | exact fU rfl)))
      (apply wls; exact salloc3 hp (zeroTy_ok rfl); rintro _ w12 ⟨cb, rfl, hp⟩)
      (apply wls0; exact sstore3 hp 0 rfl rfl rfl rfl (sizeTy_ok rfl) rfl; rintro _ w13 ⟨rfl, hp⟩)
      have hp := hp.norm 0 [.bool false, .string (ofN cn), .string (ofN cd)] rfl rfl
      have hp : Hp w [] w13 [blk cb 3 (frOf [.bool false, .string (ofN cn), .string (ofN cd)]) 62, ownL eI 3 1 (some ⟨mg, 0, none⟩) (k + 1) z, ownL eI 3 1 s c G, blk db 13 (frOf (dw ⟨#[]⟩ 1 0 0 p k none 0 0)) 50] := hp
      have hm1 : m < k + 1 := by omega
      (repeat (first | (with_reducible first | apply WP_seq | apply wpl_nil | apply thenQ_n) | (apply wlp; apply pv_assign; exact fB rfl)))
      refine WP_draw mixed (by kernel_rfl) (fun w' => Hp _ _ w' _) hp.drew ?_
      have hp := hp.drew
      (repeat (first | ((apply wdp; exact rfl); (intro w hp; intros; ((first | apply pv_move | (apply pf_loadb; exact rfl) | apply pv_not) <;> (first | exact rfl | exact hp.agg_blk 0 rfl rfl))); (intros; (first | exact fI rfl | exact fB rfl | exact fA3 rfl))) | ((apply wdpT; exact rfl; exact rfl; exact rfl); (intro w hp; ((first | apply pv_move | (apply pf_loadb; exact rfl) | apply pv_not) <;> (first | exact rfl | exact hp.agg_blk 0 rfl rfl))); (intros; (first | exact fI rfl | exact fB rfl | exact fA3 rfl))) | (apply wdpF; exact rfl; exact rfl; exact rfl; exact rfl) | (apply wdpU; exact rfl; exact rfl; exact rfl)))
      (apply wdsT; exact rfl; exact rfl; exact rfl; exact st_call rfl ent32 rfl (c32 (ch p k : Int) _ (by omega) (by omega)); rintro _ w14 ⟨rfl, hk⟩; have hp := hp.call hk; refine ⟨hp, ?_⟩)
      (apply wdsT; exact rfl; exact rfl; exact rfl; exact st_call rfl ent31 rfl (h31 _); rintro _ w15 ⟨rfl, hk⟩; have hp := hp.call hk; refine ⟨hp, ?_⟩)
      (repeat (first | ((apply wdpT; exact rfl; exact rfl; exact rfl); (intro w hp; ((first | apply pv_move | (apply pf_load; exact rfl) | (apply pf_index; exact rfl)) <;> (first | exact rfl | assumption))); (intros; (first | exact fI rfl | exact fP rfl | exact fS rfl))) | (apply wdpF; exact rfl; exact rfl; exact rfl; exact rfl) | (apply wdpU; exact rfl; exact rfl; exact rfl)))
      (apply wdpT; exact rfl; exact rfl; exact rfl; (intro w hp; exact pf_load rfl rfl (own_elem hp 1 rfl hvm (fun _ => rfl) hzm 0 _ rfl)); exact fI rfl)
      (apply wdsT; exact rfl; exact rfl; exact rfl; exact st_call rfl ent32 rfl (c32 (A : Int) _ (by omega) (by omega)); rintro _ w16 ⟨rfl, hk⟩; have hp := hp.call hk; refine ⟨hp, ?_⟩)
      rw [Int.toNat_natCast]
      (apply wdpT; exact rfl; exact rfl; exact rfl; (intro w hp; exact pv_ne62 rfl rfl); exact bool_eq (b := false) (by simp))
      (repeat (first | ((apply wdp; exact rfl); (intro w hp; intros; exact pv_orF rfl rfl); (intros; exact fB rfl)) | (apply wdpF; exact rfl; exact rfl; exact rfl; exact rfl) | (apply wdpU; exact rfl; exact rfl; exact rfl)))
      refine wpd_nil ?_
      refine WP_cond_f rfl ?_
      have hp := hp.tail
      (repeat (first | (with_reducible first | apply WP_region | apply thenQ_n | apply inBlk_n | apply WP_skip) | (apply wlp; apply pv_move; exact fI rfl)))
      (apply wlp; exact pv_add rfl rfl; exact int_eq (i64_in (by omega) (by omega)))
      (repeat (first | (with_reducible first | apply wpl_nil | apply thenQ_n) | (apply wlp; apply pv_assign; exact fI rfl)))
      exact ⟨m + 1, put_self (Same.eq (by repeat (first | exact Same.hav | exact Same.refl | refine Same.put rfl ?_ | refine Same.havs rfl ?_))) rfl, ⟨by omega, hp⟩, by omega⟩
    · (repeat (first | (with_reducible first | apply WP_seq | apply WP_region | apply wpl_nil | apply thenQ_n | apply thenQ_exit | apply WP_ret | apply WP_exit) | ((with_reducible apply inBlk_same); exact rfl) | ((first | apply wlp | (apply wlg; exact rfl; exact rfl)); (intros; (first | apply pv_move | apply pv_assign | exact pv_andT rfl rfl)); (intros; exact fB rfl))))
      exact ret_tmp rfl rfl ⟨_, rfl, rfl, hp.keeps⟩
end Go.Proofs.YteklkjnhefnimaaDoor
