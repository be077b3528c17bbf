/- Layer 14: the law TypesEntrants returns true; conditions: the numbers lie in memory. -/
import Derived.Test.YtgephdcapajaiaaEnt1
import Derived.Test.YtgephdcapajaiaaOdd
import Derived.Test.YtgephdcapajaiaaO
namespace Go.Eng
section
variable {P : Program} {n : Nat} {Q : Exit → Fr → World → Prop} {F : Fr} {w : World} {ops : Array Oper} {rest : List Oper} {st : Bool} {G : World → Prop}
variable {d : Nat} {op : Op} {ty : TypeId} {pos : String} {aft : Array Edge}
/-- a guarded operation whose guard says yes, in a region that draws its order -/
theorem wdsT {R : Value → World → Prop} {j : Nat} {want : Bool} {e : Nat} (he : effOp op = true) (hj : gslot ops j = some e) (hc : ev n F (.tmp e) = .bool want)
    (hs : StepF P n ⟨some d, op, ty, pos, aft, some (j, want)⟩ F w R) (h : ∀ v w', R v w' → G w' ∧ wpd P n ops st G rest Q (F.put d v) w') :
    wpd P n ops st G (⟨some d, op, ty, pos, aft, some (j, want)⟩ :: rest) Q F w := by
  unfold wpd wpD
  rw [if_pos he]
  unfold EffStep
  rw [wanted_act rfl hj hc]
  refine ⟨fun _ => Step.mono hs fun v w' hr => ?_, fun hw => ?_⟩
  · rw [act_put]; exact ⟨fun _ => (h v w' hr).1, (h v w' hr).2⟩
  · simp at hw
theorem wdpT {r v : Value} {j : Nat} {want : Bool} {e : Nat} (he : effOp op = false) (hj : gslot ops j = some e) (hc : ev n F (.tmp e) = .bool want)
    (hp : ∀ w, G w → PV P n w F ⟨some d, op, ty, pos, aft, some (j, want)⟩ r) (hv : r = v) (h : wpd P n ops st G rest Q (F.put d v) w) : wpd P n ops st G (⟨some d, op, ty, pos, aft, some (j, want)⟩ :: rest) Q F w := by
  subst hv
  unfold wpd wpD
  rw [if_neg (by simp [he])]
  refine ⟨r, .inl ⟨?_, fun w hw => ?_⟩, ?_⟩
  · rw [wanted_act rfl hj hc]
    simp
  · rw [act_eval]; exact hp w hw
  · rw [act_put]; exact h
end
theorem Hp.joinT {w0 w w' : World} {M : List Nat} {L : List Ent} (h : Hp w0 M w L) (A B : List Ent) (h' : Hp w [] w' (A ++ B)) : Hp w0 M w' (A ++ (L ++ B)) := by
  refine (h.join h').perm ?_
  rw [List.append_assoc]
  exact List.Perm.append_left _ List.perm_append_comm
end Go.Eng
namespace Go.Proofs.Ytgephdcapajaiaa
open Go.Eng
theorem EnVl.ix {x : En × EnA} {w0 w : World} {M : List Nat} {L : List Ent} (v : EnVl x) (hp : Hp w0 M w L) (i j k : Nat) (h0 : L[i]? = some (ownL eI 3 1 x.2.sP x.2.cP x.1.picks)) (h1 : L[j]? = some (ownL eS 9 1 x.2.sW x.2.cW x.1.wishes))
    (h2 : L[k]? = some (ownL eS 9 1 x.2.sG x.2.cG x.1.groups)) : EnAt w x.1 x.2 := ⟨ownL_At hp i h0 v.vP (fun _ => rfl), ownL_At hp j h1 v.vW (fun _ => rfl), ownL_At hp k h2 v.vG (fun _ => rfl)⟩
theorem entE_ln {d : Dr} (h : chk d = (⟨#[]⟩, 0)) (l : List Int) (j i : Nat) : EnLn (entE d l j i) 12 := by
  unfold entE
  split
  · rename_i hk
    obtain ⟨p1, p2, p3, p4, p5⟩ := chk_lot' h hk
    refine ⟨?_, by simp, by simp⟩
    show (lotPicks d l j).length ≤ 12
    unfold lotPicks lotPs
    split <;> simp <;> omega
  · split
    · rename_i hk
      obtain ⟨p1, p2⟩ := chk_places (d := d) (by rw [h]) hk
      have b1 := nx_lt l (j + 3) (n := d.places.length + 1) (by omega)
      refine ⟨by simp, ?_, by simp⟩
      show (balW d l j).length ≤ 12
      unfold balW
      simp
      omega
    · refine ⟨by simp, by simp, ?_⟩
      show (panQ l j 3).length ≤ 12
      unfold panQ
      rw [List.length_map]
      exact Nat.le_trans (List.length_filter_le _ _) (by simp)
theorem entE_sz (d : Dr) (l : List Int) (j i : Nat) : EnSz (entE d l j i) := by
  unfold entE
  split
  · exact ⟨by simp⟩
  · split
    · exact ⟨by simp⟩
    · refine ⟨?_⟩
      intro p hp
      have hp : p ∈ panQ l j 3 := hp
      unfold panQ at hp
      rw [List.mem_map] at hp
      obtain ⟨q, _, rfl⟩ := hp
      rw [wordB_size]
      decide
/-- each entrant that the numbers determine -/
theorem ents_mem {d : Dr} {l : List Int} {xs : List (En × EnA)} (h : xs.map (·.1) = entsOf d l) {x : En × EnA} (hx : x ∈ xs) : ∃ j i, i < 7 ∧ x.1 = entE d l j i := by
  have hm : x.1 ∈ entsOf d l := by
    rw [← h]
    exact List.mem_map_of_mem hx
  unfold entsOf at hm
  obtain ⟨q, hq, e⟩ := mem_range_map hm
  have := nx_lt l 0 (n := 7) (by decide)
  exact ⟨_, q, by omega, e⟩
attribute [local irreducible] PV StepF wpl wpd WP Ret
attribute [local irreducible] chk entC

set_option maxHeartbeats 2000000 in
theorem c5 (y z : Option Addr × List Int × Nat) (q0 q1 q2 q3 q4 q5 b0 b1 b2 : Int) (w0 : World) (hy : IntsOk w0 y) (hz : IntsOk w0 z) :
    Ret Try.prog 5 [.agg #[.slice y.1 y.2.1.length y.2.2, .slice z.1 z.2.1.length z.2.2], .agg #[.int .i64 q0, .int .i64 q1, .int .i64 q2, .int .i64 q3, .int .i64 q4, .int .i64 q5], .agg #[.int .i64 b0, .int .i64 b1, .int .i64 b2]] w0
      (fun v w' => v = .bool true ∧ Keeps [] w0 w') := by
  refine Ret.of_WP Try.func5 rfl Try.ntmps5 rfl ?_
  have hp := Hp.start (M := []) (w := w0)
  ((repeat (with_reducible first | apply WP_seq | apply WP_region)); apply wls; exact sbox2 hp rfl; rintro _ w ⟨lb, rfl, hp⟩)
  (apply wls; exact sbox6 hp rfl; rintro _ w ⟨qb, rfl, hp⟩)
  (apply wls; exact sbox3 hp rfl; rintro _ w ⟨bb, rfl, hp⟩)
  (repeat (first | (with_reducible first | apply WP_seq | apply WP_region | apply wpl_nil | apply thenQ_n) | (apply wlp; apply pv_assign; exact fB rfl)))
  (apply wls; exact st_call rfl ent10 rfl (c10 _))
  rintro _ w ⟨rfl, hk⟩
  have hp := hp.call hk
  (repeat (first | (with_reducible first | apply WP_seq | apply WP_region | apply wpl_nil | apply thenQ_n) | (apply wlp; ((first | apply pv_assign | (apply pf_index_a; exact rfl)) <;> exact rfl); exact fB rfl)))
  (apply wlp; exact pf_index_a (i := 0) rfl rfl rfl (by decide); exact fP rfl)
  (apply wlp; exact pf_load rfl rfl (hp.cell 2 rfl rfl); exact fS rfl)
  (apply wls; exact st_call rfl ent11 rfl (c11 y.2.1 y.1 y.2.2 _ (hy.at_.keep0 hp.keeps) (Nat.le_trans hy.cap hy.mx)))
  rintro _ w1 ⟨d, a, rfl, hk, hG⟩
  have hp := hp.call hk
  have clz : w1.cell? ⟨lb, 0 + 1 * 1, none⟩ = some (.slice z.1 z.2.1.length z.2.2) := hp.cell 2 rfl rfl
  have cqA := hp.agg_blk (k := 3) (o := 0 + 0 * 3) 1 rfl rfl
  have cqB := hp.agg_blk (k := 3) (o := 0 + 1 * 3) 1 rfl rfl
  have cbb := hp.agg_blk (k := 3) (o := 0) 0 rfl rfl
  have hk1 := hp.keeps
  clear hp hk
  have hp := Hp.start (M := []) (w := w1)
  have hd : DrAt w1 d a := hG.at_
  have hln : DrLn d 40 := ⟨Nat.le_trans hG.tl (by decide), Nat.le_trans hG.pl (by decide), Nat.le_trans hG.ql (by decide), hG.bl⟩
  (apply wls; exact salloc13 hp (zeroTy_ok rfl); rintro _ w ⟨db, rfl, hp⟩)
  (apply wls0; exact sstore13 hp 0 rfl rfl rfl rfl (sizeTy_ok rfl) rfl; rintro _ w ⟨rfl, hp⟩)
  have hp := hp.norm 0 (drC d a) rfl rfl
  (repeat (first | (with_reducible first | apply WP_seq | apply WP_region | apply wpl_nil | apply thenQ_n) | (apply wlp; ((first | (apply pf_loadb; exact rfl) | (apply pf_index_a; exact rfl)) <;> (first | exact rfl | exact hp.agg_blk 0 rfl rfl)); exact fA13 rfl)))
  (apply wlp; exact pf_index_a (i := 1) rfl rfl rfl (by decide); exact fP rfl)
  (apply wlp; exact pf_load rfl rfl (hp.old0 clz); exact fS rfl)
  (apply wls; exact st_call rfl ent16 rfl (c16 d a z.2.1 z.1 z.2.2 _ (hd.keep hp.keeps) hG.ok (hz.at_.keep0 (hk1.trans hp.keeps (by simp))) (Nat.le_trans hz.cap hz.mx)))
  rintro _ w ⟨xs, so, co, rfl, hvo, hmap, hE, hpE⟩
  have hp := hp.joinT [ownL eEn 46 6 so co xs] (xs.flatMap enOwn) hpE
  (repeat (first | (with_reducible first | apply WP_seq | apply WP_region | apply wpl_nil | apply thenQ_n) | (apply wlp; ((first | apply pv_assign | (apply pf_loadb; exact rfl)) <;> (first | exact rfl | exact hp.agg_blk 1 rfl rfl)); (first | exact fS rfl | exact fA13 rfl))))
  (apply wlp; (apply pf_loadb; exact rfl; exact rfl; exact rfl; exact fun j v hv => hp.old0 (cbb j v hv)); exact fA3 rfl)
  (apply wls; exact st_call rfl ent12 rfl (c12 d a b0 b1 b2 40 _ (hd.keep hp.keeps) hG.sz hln (by omega)))
  rintro _ w ⟨d1, a1, rfl, hp1, v1, hz1, hl1⟩
  have hp := hp.join hp1
  (apply wls; exact salloc13 hp (zeroTy_ok rfl); rintro _ w ⟨ob, rfl, hp⟩)
  (apply wls0; exact sstore13 hp 0 rfl rfl rfl rfl (sizeTy_ok rfl) rfl; rintro _ w9 ⟨rfl, hp⟩)
  have hp := hp.norm 0 (drC d1 a1) rfl rfl
  -- ob, B, Q, P, T, out, db, entrants
  have hd9 : DrAt w9 d a := hd.keep hp.keeps
  have ho9 : DrAt w9 d1 a1 := v1.at_ hp 1 2 3 4 rfl rfl rfl rfl
  have cD := hp.agg_blk (k := 13) (o := 0) 6 rfl rfl
  have cO := hp.agg_blk (k := 13) (o := 0) 0 rfl rfl
  have hxs : SlAt w9 6 eEn so xs := ownL_At hp 5 rfl hvo (fun _ => rfl)
  have hxe : ∀ x ∈ xs, EnAt w9 x.1 x.2 := fun x hx => (hE x hx).at_ hp (fun p hp => by
    have : p ∈ xs.flatMap enOwn := List.mem_flatMap.2 ⟨x, hx, hp⟩
    exact List.mem_append_right [_, _, _, _, _, _, _] this)
  have cqA : ∀ (j : Nat) (v : Value), _ → w9.cell? _ = some v := fun j v hv => hp.old0 (cqA j v hv)
  have cqB : ∀ (j : Nat) (v : Value), _ → w9.cell? _ = some v := fun j v hv => hp.old0 (cqB j v hv)
  have hxl : xs.length < 7 := by
    have h1 := congrArg List.length hmap
    have h2 := nx_lt z.2.1 0 (n := 7) (by decide)
    have h3 := nx_nonneg z.2.1 0 (n := 7) (by decide)
    unfold entsOf at h1
    simp at h1
    omega
  have hk9 := hk1.trans hp.keeps (by simp)
  clear hp
  (repeat (first | (with_reducible first | apply WP_seq | apply WP_block | apply WP_region | apply wpl_nil | apply thenQ_n) | (apply wlp; apply pv_assign; exact fI rfl)))
  refine WP_fresh [(4, .pointer (some ⟨qb, 0, none⟩)), (7, .bool true), (8, .pointer (some ⟨db, 0, none⟩)), (9, .slice so xs.length co), (10, .pointer (some ⟨ob, 0, none⟩)), (11, .int .i64 0)] ⟨rfl, rfl, rfl, rfl, rfl, rfl, trivial⟩ ?_
  intro F0
  refine WP_loopS [6, 11, 12, 13, 25, 26, 27, 28, 29, 30, 31, 32, 33, 34, 35, 36, 37, 38, 39, 40, 41, 42, 43, 44, 45, 46, 47, 48, 49, 50, 51, 52, 53, 54, 55, 56, 57, 58, 59, 60, 61, 62, 63, 64, 65, 66, 67, 68, 69, 70, 71, 72, 73, 74, 75] (fun (i : Nat) F => F.put 11 (.int .i64 i)) (fun i w' => i ≤ xs.length ∧ Keeps [] w9 w') (fun i => xs.length - i) 0 (put_self (Same.eq .refl) rfl) ⟨Nat.zero_le _, .refl⟩ ?_
  rintro u i w10 ⟨hi, hk⟩
  have hp := Hp.of_keeps hk
  (repeat (first | (with_reducible first | apply WP_seq | apply WP_region | apply wpl_nil | apply thenQ_n) | (apply wlp; ((first | apply pv_move | (apply pf_len; exact rfl) | apply pv_lss) <;> exact rfl); (first | exact fI rfl | exact fB rfl | exact fS rfl))))
  refine WP_cond_d rfl (fun h => ?_) (fun h => ?_)
  · have hil : i < xs.length := by omega
    obtain ⟨pb, po, hso, hpc⟩ := hxs.base (by omega)
    have hcx := hpc i _ (List.getElem?_eq_getElem hil)
    have hxm : xs[i] ∈ xs := List.getElem_mem hil
    obtain ⟨x, hx⟩ : ∃ x, x = xs[i] := ⟨_, rfl⟩
    rw [← hx] at hcx hxm
    have hax := hxe x hxm
    obtain ⟨je, ie, hie, hxe1⟩ := ents_mem hmap hxm
    have hent : entC d x.1 = 0 := by rw [hxe1]; exact entC_ent hG.ok hG.bar _ _ _ hie
    have hlx : EnLn x.1 12 := by rw [hxe1]; exact entE_ln hG.ok _ _ _
    have hzx : EnSz x.1 := by rw [hxe1]; exact entE_sz _ _ _ _
    (repeat (with_reducible first | apply WP_seq | apply WP_block | apply thenQ_n | apply WP_skip))
    refine WP_drawE false [0, 1, 2, 3, 4, 5, 6, 7, 8] mixed (by kernel_rfl) rfl (fun w' => Hp w9 [] w' []) hp.drew ?_
    have hp := hp.drew
    (repeat ((apply wep; exact rfl; exact rfl); (intro w hp; intros; ((first | apply pv_move | (apply pf_loadb; exact rfl) | (apply pf_index; exact rfl)) <;> (first | exact rfl | assumption))); (intros; (first | exact fI rfl | exact fP rfl | exact fS rfl))))
    (apply wep; exact rfl; exact rfl; (intro w hp; exact pf_loads rfl rfl rfl rfl (fun j v hv => hp.old0 (hcx j v hv))); exact (rfl : _ = enV x.1 x.2))
    (apply wep; exact rfl; exact rfl; (intro w hp; exact pf_index_a (i := 0) rfl rfl rfl (by decide)); exact fP rfl)
    (apply wep; exact rfl; exact rfl; (intro w hp; apply pf_loadb; exact rfl; exact rfl; exact rfl; exact fun j v hv => hp.old0 (cqA j v hv)); exact fA3 rfl)
    refine wee1 7 rfl (by kernel_rfl) rfl rfl ?eA ?eB
    case' eA =>
      (apply wbs; exact rfl; exact st_call rfl ent17 rfl (c17 x.1 x.2 q0 q1 q2 12 _ (hax.keep hp.keeps) hzx hlx (by omega)); rintro _ w ⟨e1, ae1, rfl, hpo, ve1, hze1, hle1⟩; have hp := hp.join hpo; refine ⟨hp.sub (List.nil_sublist _), ?_⟩)
      refine wee0 rfl (by kernel_rfl) ?_ rfl
      (apply wbs; exact rfl; exact salloc6 hp (zeroTy_ok rfl); rintro _ w ⟨eb, rfl, hp⟩; refine ⟨hp.sub (List.nil_sublist _), ?_⟩)
    case' eB =>
      (apply wbs; exact rfl; exact salloc6 hp (zeroTy_ok rfl); rintro _ w ⟨eb, rfl, hp⟩; refine ⟨hp.sub (List.nil_sublist _), ?_⟩)
      refine wee0 rfl (by kernel_rfl) ?_ rfl
      (apply wbs; exact rfl; exact st_call rfl ent17 rfl (c17 x.1 x.2 q0 q1 q2 12 _ (hax.keep hp.keeps) hzx hlx (by omega)); rintro _ w ⟨e1, ae1, rfl, hpo, ve1, hze1, hle1⟩; have hp := hp.join hpo; have hp := hp.picks [3, 0, 1, 2] (_ :: enOwn (e1, ae1)) rfl rfl; refine ⟨hp.sub (List.nil_sublist _), ?_⟩)
    all_goals (
    refine wee0 rfl (by kernel_rfl) ?_ rfl
    (apply wbs0S; exact rfl; exact rfl; exact sstore6 hp 0 rfl rfl rfl rfl (sizeTy_ok rfl) rfl; rintro _ w ⟨rfl, hp⟩)
    have hp := hp.norm 0 (enC e1 ae1) rfl rfl
    refine wpe_nil ?_
    (repeat (first | (with_reducible first | apply WP_seq | apply WP_region | apply thenQ_n) | (apply wlp; ((first | (apply pf_loadb; exact rfl) | (apply pf_index_a; exact rfl)) <;> (first | exact rfl | exact hp.agg_blk 0 rfl rfl)); exact fA6 rfl)))
    (apply wlp; exact pf_index_a (i := 1) rfl rfl rfl (by decide); exact fP rfl)
    (apply wlp; (apply pf_loadb; exact rfl; exact rfl; exact rfl; exact fun j v hv => hp.old0 (cqB j v hv)); exact fA3 rfl)
    (apply wls; exact st_call rfl ent17 rfl (c17 e1 ae1 q3 q4 q5 24 _ (ve1.ix hp 1 2 3 rfl rfl rfl) hze1 hle1 (by omega)))
    rintro _ w ⟨e2, ae2, rfl, hpo, ve2, hze2, hle2⟩
    have hp := hp.join hpo
    (apply wls; exact salloc6 hp (zeroTy_ok rfl); rintro _ w ⟨fb, rfl, hp⟩)
    (apply wls0; exact sstore6 hp 0 rfl rfl rfl rfl (sizeTy_ok rfl) rfl; rintro _ w ⟨rfl, hp⟩)
    have hp := hp.norm 0 (enC e2 ae2) rfl rfl
    -- fb, P2, W2, G2, eb, P1, W1, G1
    (repeat (with_reducible first | apply WP_seq | apply wpl_nil | apply thenQ_n))
    refine WP_draw mixed (by kernel_rfl) (fun w' => Hp _ _ w' _) hp.drew ?_
    have hp := hp.drew
    (apply wdp; exact rfl; (intro w hp; apply pf_loadb; exact rfl; exact rfl; exact rfl; exact fun j v hv => hp.old0 (cD j v hv)); exact fA13 rfl)
    (repeat ((apply wdp; exact rfl); (intro w hp; intros; ((first | apply pv_move | (apply pf_loadb; exact rfl) | (apply pf_index; exact rfl)) <;> (first | exact rfl | assumption))); (intros; (first | exact fI rfl | exact fP rfl | exact fS rfl))))
    (apply wdp; exact rfl; (intro w hp; exact pf_loads rfl rfl rfl rfl (fun j v hv => hp.old0 (hcx j v hv))); exact (rfl : _ = enV x.1 x.2))
    (apply wds; exact rfl; exact st_call rfl ent18 rfl (c18 d a x.1 x.2 _ (hd9.keep hp.keeps) (hax.keep hp.keeps)); rintro _ w ⟨rfl, hk⟩; have hp := hp.call hk; refine ⟨hp, ?_⟩)
    (apply wdp; exact rfl; (intro w hp; exact pv_neq rfl rfl); exact bool_eq (b := false) (by rw [hent]; rfl))
    (apply wdp; exact rfl; (intro w hp; exact pv_move); exact fB rfl)
    (apply wdpT; exact rfl; exact rfl; exact rfl; (intro w hp; apply pf_loadb; exact rfl; exact rfl; exact rfl; exact fun j v hv => hp.old0 (cD j v hv)); exact fA13 rfl)
    (apply wdpT; exact rfl; exact rfl; exact rfl; (intro w hp; apply pf_loadb; exact rfl; exact rfl; exact rfl; exact hp.agg_blk 4 rfl rfl); exact fA6 rfl)
    (apply wdsT; exact rfl; exact rfl; exact rfl; exact st_call rfl ent18 rfl (c18 d a e1 ae1 _ (hd9.keep hp.keeps) (ve1.ix hp 5 6 7 rfl rfl rfl)); rintro _ w ⟨rfl, hk⟩; have hp := hp.call hk; refine ⟨hp, ?_⟩)
    (apply wdpT; exact rfl; exact rfl; exact rfl; (intro w hp; apply pf_loadb; exact rfl; exact rfl; exact rfl; exact fun j v hv => hp.old0 (cD j v hv)); exact fA13 rfl)
    (apply wdpT; exact rfl; exact rfl; exact rfl; (intro w hp; apply pf_loadb; exact rfl; exact rfl; exact rfl; exact hp.agg_blk 4 rfl rfl); exact fA6 rfl)
    (apply wdsT; exact rfl; exact rfl; exact rfl; exact st_call rfl ent19 rfl (c19 d a e1 ae1 _ (hd9.keep hp.keeps) (ve1.ix hp 5 6 7 rfl rfl rfl) hG.sz hze1); rintro _ w ⟨rfl, hk⟩; have hp := hp.call hk; refine ⟨hp, ?_⟩)
    (apply wdpT; exact rfl; exact rfl; exact rfl; (intro w hp; exact pv_neq rfl rfl); exact bool_eq (b := false) (by simp))
    (apply wdp; exact rfl; (intro w hp; exact pv_or' rfl rfl); exact bool_eq (b := false) rfl)
    (apply wdp; exact rfl; (intro w hp; exact pv_move); exact fB rfl)
    (apply wdpT; exact rfl; exact rfl; exact rfl; (intro w hp; apply pf_loadb; exact rfl; exact rfl; exact rfl; exact fun j v hv => hp.old0 (cD j v hv)); exact fA13 rfl)
    (apply wdpT; exact rfl; exact rfl; exact rfl; (intro w hp; apply pf_loadb; exact rfl; exact rfl; exact rfl; exact hp.agg_blk 0 rfl rfl); exact fA6 rfl)
    (apply wdsT; exact rfl; exact rfl; exact rfl; exact st_call rfl ent18 rfl (c18 d a e2 ae2 _ (hd9.keep hp.keeps) (ve2.ix hp 1 2 3 rfl rfl rfl)); rintro _ w ⟨rfl, hk⟩; have hp := hp.call hk; refine ⟨hp, ?_⟩)
    (apply wdpT; exact rfl; exact rfl; exact rfl; (intro w hp; apply pf_loadb; exact rfl; exact rfl; exact rfl; exact fun j v hv => hp.old0 (cD j v hv)); exact fA13 rfl)
    (apply wdpT; exact rfl; exact rfl; exact rfl; (intro w hp; apply pf_loadb; exact rfl; exact rfl; exact rfl; exact hp.agg_blk 0 rfl rfl); exact fA6 rfl)
    (apply wdsT; exact rfl; exact rfl; exact rfl; exact st_call rfl ent19 rfl (c19 d a e2 ae2 _ (hd9.keep hp.keeps) (ve2.ix hp 1 2 3 rfl rfl rfl) hG.sz hze2); rintro _ w ⟨rfl, hk⟩; have hp := hp.call hk; refine ⟨hp, ?_⟩)
    (apply wdpT; exact rfl; exact rfl; exact rfl; (intro w hp; exact pv_neq rfl rfl); exact bool_eq (b := false) (by simp))
    (apply wdp; exact rfl; (intro w hp; exact pv_or' rfl rfl); exact bool_eq (b := false) rfl)
    (apply wdp; exact rfl; (intro w hp; exact pv_move); exact fB rfl)
    (apply wdpT; exact rfl; exact rfl; exact rfl; (intro w hp; apply pf_loadb; exact rfl; exact rfl; exact rfl; exact fun j v hv => hp.old0 (cO j v hv)); exact fA13 rfl)
    (apply wdpT; exact rfl; exact rfl; exact rfl; (intro w hp; apply pf_loadb; exact rfl; exact rfl; exact rfl; exact hp.agg_blk 4 rfl rfl); exact fA6 rfl)
    (apply wdsT; exact rfl; exact rfl; exact rfl; exact st_call rfl ent18 rfl (c18 d1 a1 e1 ae1 _ (ho9.keep hp.keeps) (ve1.ix hp 5 6 7 rfl rfl rfl)); rintro _ w ⟨rfl, hk⟩; have hp := hp.call hk; refine ⟨hp, ?_⟩)
    (apply wdpT; exact rfl; exact rfl; exact rfl; (intro w hp; apply pf_loadb; exact rfl; exact rfl; exact rfl; exact fun j v hv => hp.old0 (cO j v hv)); exact fA13 rfl)
    (apply wdpT; exact rfl; exact rfl; exact rfl; (intro w hp; apply pf_loadb; exact rfl; exact rfl; exact rfl; exact hp.agg_blk 4 rfl rfl); exact fA6 rfl)
    (apply wdsT; exact rfl; exact rfl; exact rfl; exact st_call rfl ent19 rfl (c19 d1 a1 e1 ae1 _ (ho9.keep hp.keeps) (ve1.ix hp 5 6 7 rfl rfl rfl) hz1 hze1); rintro _ w ⟨rfl, hk⟩; have hp := hp.call hk; refine ⟨hp, ?_⟩)
    (apply wdpT; exact rfl; exact rfl; exact rfl; (intro w hp; exact pv_neq rfl rfl); exact bool_eq (b := false) (by simp))
    (apply wdp; exact rfl; (intro w hp; exact pv_or' rfl rfl); exact bool_eq (b := false) rfl)
    refine wpd_nil ?_
    (repeat with_reducible apply thenQ_n)
    refine WP_cond_f rfl ?_
    (repeat (first | (with_reducible first | apply WP_region | apply thenQ_n | apply inBlk_n | apply WP_skip) | (apply wlp; apply pv_move; exact fI rfl)))
    (apply wlp; exact pv_add rfl rfl; exact int_eq (i64_in (by omega) (by omega)))
    (repeat (first | (with_reducible first | apply wpl_nil | apply thenQ_n) | (apply wlp; apply pv_assign; exact fI rfl)))
    exact ⟨i + 1, put_self (Same.eq (by repeat (first | exact Same.hav | exact Same.refl | refine Same.put rfl ?_ | refine Same.havs rfl ?_))) rfl, ⟨by omega, hp.keeps⟩, by omega⟩)
  · (repeat (first | (with_reducible first | apply WP_seq | apply WP_region | apply wpl_nil | apply thenQ_n | apply thenQ_exit | apply WP_ret | apply WP_exit) | ((with_reducible apply inBlk_same); exact rfl) | (apply wlp; (first | apply pv_move | apply pv_assign); exact fB rfl)))
    exact ret_tmp rfl rfl ⟨_, rfl, rfl, hk9.trans hk (by simp)⟩
end Go.Proofs.Ytgephdcapajaiaa
