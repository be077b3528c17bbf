/- Layer 14: the law TypesAgain returns true; conditions: numbers and changes lie in memory. -/
import Derived.Test.YtgephdcapajaiaaAdm7
namespace Go.Proofs.Ytgephdcapajaiaa
open Go.Eng
theorem map_take_eq {α β : Type} {f : α → β} {l : List α} {n : Nat} : (l.take n).map f = (l.map f).take n := by
  rw [List.map_take]
attribute [local irreducible] PV StepF wpl wpd WP Ret
attribute [local irreducible] chk entC adm

set_option maxHeartbeats 4000000 in
theorem c8 (y z : Option Addr × List Int × Nat) (s : Option Addr) (c : Nat) (q : List (Int × Int × Int)) (k : Int) (w0 : World) (hy : IntsOk w0 y) (hz : IntsOk w0 z) (hq : SlAt w0 3 e3 s q) (hk0 : 0 ≤ k ∧ k ≤ 255) :
    Ret Try.prog 8 [.agg #[.slice y.1 y.2.1.length y.2.2, .slice z.1 z.2.1.length z.2.2], .slice s q.length c, .int .u8 k] w0 (fun v w' => v = .bool true ∧ Keeps [] w0 w') := by
  refine Ret.of_WP Try.func8 rfl Try.ntmps8 rfl ?_
  have hp := Hp.start (M := []) (w := w0)
  ((repeat (with_reducible first | apply WP_seq | apply WP_region)); apply wls; exact sbox2 hp rfl; rintro _ w ⟨lb, rfl, hp⟩)
  (repeat (first | (with_reducible first | apply WP_seq | apply WP_region | apply wpl_nil | apply thenQ_n) | (apply wlp; apply pv_assign; exact fB rfl)))
  (apply wls; exact st_call rfl ent10 rfl (c10 _))
  rintro _ w ⟨rfl, hk⟩
  have hp := hp.call hk
  (repeat (first | (with_reducible first | apply WP_seq | apply WP_region | apply wpl_nil | apply thenQ_n) | (apply wlp; ((first | apply pv_assign | (apply pf_index_a; exact rfl)) <;> exact rfl); exact fB rfl)))
  (apply wlp; exact pf_index_a (i := 0) rfl rfl rfl (by decide); exact fP rfl)
  (apply wlp; exact pf_load rfl rfl (hp.cell 0 rfl rfl); exact fS rfl)
  (apply wls; exact st_call rfl ent11 rfl (c11 y.2.1 y.1 y.2.2 _ (hy.at_.keep0 hp.keeps) (Nat.le_trans hy.cap hy.mx)))
  rintro _ w1 ⟨d, a, rfl, hk, hG⟩
  have hp := hp.call hk
  have clz : w1.cell? ⟨lb, 0 + 1 * 1, none⟩ = some (.slice z.1 z.2.1.length z.2.2) := hp.cell 0 rfl rfl
  have hk1 := hp.keeps
  clear hp hk
  have hq1 : SlAt w1 3 e3 s q := hq.keep0 hk1
  have hp := Hp.start (M := []) (w := w1)
  have hd : DrAt w1 d a := hG.at_
  (apply wls; exact salloc13 hp (zeroTy_ok rfl); rintro _ w ⟨db, rfl, hp⟩)
  (apply wls0; exact sstore13 hp 0 rfl rfl rfl rfl (sizeTy_ok rfl) rfl; rintro _ w ⟨rfl, hp⟩)
  have hp := hp.norm 0 (drC d a) rfl rfl
  (repeat (first | (with_reducible first | apply WP_seq | apply WP_region | apply wpl_nil | apply thenQ_n) | (apply wlp; ((first | (apply pf_loadb; exact rfl) | (apply pf_index_a; exact rfl)) <;> (first | exact rfl | exact hp.agg_blk 0 rfl rfl)); exact fA13 rfl)))
  (apply wlp; exact pf_index_a (i := 1) rfl rfl rfl (by decide); exact fP rfl)
  (apply wlp; exact pf_load rfl rfl (hp.old0 clz); exact fS rfl)
  (apply wls; exact st_call rfl ent16 rfl (c16 d a z.2.1 z.1 z.2.2 _ (hd.keep hp.keeps) hG.ok (hz.at_.keep0 (hk1.trans hp.keeps (by simp))) (Nat.le_trans hz.cap hz.mx)))
  rintro _ w ⟨xs, so, co, rfl, hvo, hmap, hE, hpE⟩
  have hp := hp.joinT [ownL eEn 46 6 so co xs] (xs.flatMap enOwn) hpE
  have hxl : xs.length < 7 := by
    have h1 := congrArg List.length hmap
    have h2 := nx_lt z.2.1 0 (n := 7) (by decide)
    have h3 := nx_nonneg z.2.1 0 (n := 7) (by decide)
    unfold entsOf at h1
    simp at h1
    omega
  have hO : ∀ x ∈ xs, EnOk 12 x := by
    intro x hx
    obtain ⟨je, ie, _, hxe1⟩ := ents_mem hmap hx
    exact ⟨hE x hx, by rw [hxe1]; exact entE_sz _ _ _ _, by rw [hxe1]; exact entE_ln hG.ok _ _ _⟩
  clear hE hmap
  (repeat (first | (with_reducible first | apply WP_seq | apply WP_block | apply WP_region | apply wpl_nil | apply thenQ_n) | (apply wlp; apply pv_assign; (first | exact fI rfl | exact fS rfl))))
  refine WP_fresh [(1, .slice s q.length c), (2, .int .u8 k), (7, .bool true), (8, .pointer (some ⟨db, 0, none⟩)), (9, .slice so xs.length co), (10, .int .i64 0)] ⟨rfl, rfl, rfl, rfl, rfl, rfl, trivial⟩ ?_
  intro F0
  refine WP_loopS [9, 10, 11, 27, 28, 29, 30, 31, 32, 33, 34, 35, 36, 37, 38, 39, 40, 41, 42, 43, 44, 45, 46, 47, 48, 49, 50, 51, 52, 53, 54, 55, 56, 57, 58, 59, 60, 61, 62, 63, 64, 65, 66, 67, 68, 69] (fun (x : Nat × List (En × EnA) × Option Addr × Nat) F => (F.put 10 (.int .i64 x.1)).put 9 (.slice x.2.2.1 x.2.1.length x.2.2.2))
    (fun x w' => x.1 ≤ 6 ∧ x.2.1.length < 7 + x.1 ∧ SVL x.2.2.1 x.2.2.2 x.2.1 ∧ (∀ y ∈ x.2.1, EnOk (12 + 12 * x.1) y) ∧ Hp w1 [] w' ([ownL eEn 46 6 x.2.2.1 x.2.2.2 x.2.1, blk db 13 (frOf (drC d a)) 30] ++ x.2.1.flatMap enOwn))
    (fun x => 6 - x.1) (0, xs, so, co) (put_self (put_self (Same.eq .refl) rfl) rfl) ⟨by simp, by simpa using hxl, hvo, hO, hp⟩ ?_
  clear hp hvo hO hxl
  rintro u ⟨i, xs, so, co⟩ w ⟨hi, hxl, hvo, hO, hp⟩
  have hi : i ≤ 6 := hi
  have hxl : xs.length < 7 + i := hxl
  have hvo : SVL so co xs := hvo
  have hO : ∀ y ∈ xs, EnOk (12 + 12 * i) y := hO
  have hp : Hp w1 [] w ([ownL eEn 46 6 so co xs, blk db 13 (frOf (drC d a)) 30] ++ xs.flatMap enOwn) := hp
  (repeat (first | (with_reducible first | apply WP_seq | apply WP_region | apply wpl_nil | apply thenQ_n) | ((first | apply wlp | (apply wlg; exact rfl; exact rfl)); (intros; ((first | apply pv_move | (apply pf_len; exact rfl) | exact pv_and rfl rfl rfl | apply pv_lss | apply pv_gtr) <;> (first | exact rfl | exact ev_sel rfl (by assumption)))); (intros; (first | exact fI rfl | exact fB rfl | exact fS rfl)))))
  refine WP_cond rfl (fun h => ?_) (fun h => ?_)
  · have h : ((decide ((i : Int) < q.length) && decide ((i : Int) < 6)) && decide (0 < (xs.length : Int))) = true := h
    simp at h
    obtain ⟨⟨hiq, hi6⟩, hx0⟩ := h
    obtain ⟨qb, qo, hsq, hqc0⟩ := hq1.base (by omega)
    have hqc := hqc0 i _ (List.getElem?_eq_getElem hiq)
    obtain ⟨t, ht⟩ : ∃ t, t = q[i] := ⟨_, rfl⟩
    rw [← ht] at hqc
    have hc0 : w1.cell? ⟨qb, qo + i * 3 + 0 * 1, none⟩ = some (.int .i64 t.1) := hqc 0 _ rfl
    have hc1 : w1.cell? ⟨qb, qo + i * 3 + 1 * 1, none⟩ = some (.int .i64 t.2.1) := hqc 1 _ rfl
    have hc2 : w1.cell? ⟨qb, qo + i * 3 + 2 * 1, none⟩ = some (.int .i64 t.2.2) := hqc 2 _ rfl
    have hne : xs ≠ [] := by
      rintro rfl
      simp at hx0
    obtain ⟨g, rfl⟩ := hvo.addr hne
    have hpos : (0 : Int) < xs.length := by omega
    obtain ⟨kk, hkk, hku⟩ : ∃ kk : Nat, t.1 % (xs.length : Int) = kk ∧ kk < xs.length := by
      have h1 := Int.emod_nonneg t.1 (b := (xs.length : Int)) (by omega)
      have h2 := Int.emod_lt_of_pos t.1 hpos
      exact ⟨(t.1 % (xs.length : Int)).toNat, by omega, by omega⟩
    have hxk := List.getElem?_eq_getElem hku
    have hxm := hO _ (List.getElem_mem hku)
    have hxmem : xs[kk] ∈ xs := List.getElem_mem hku
    obtain ⟨x, hx⟩ : ∃ x, x = xs[kk] := ⟨_, rfl⟩
    rw [← hx] at hxk hxm hxmem
    (repeat (first | (with_reducible first | apply WP_seq | apply WP_block | apply WP_region | apply thenQ_n | apply WP_skip) | (apply wlp; ((first | apply pv_move | (apply pf_index; exact rfl) | (apply pf_index_a; exact rfl)) <;> (first | exact rfl | assumption)); (first | exact fI rfl | exact fP rfl | exact fS rfl))))
    (apply wlp; exact pf_index_a (i := 0) rfl rfl rfl (by decide); exact fP rfl)
    (apply wlp; exact pf_load rfl rfl (hp.old0 hc0); exact fI rfl)
    (repeat (apply wlp; ((first | apply pv_move | (apply pf_len; exact rfl)) <;> exact rfl); (first | exact fI rfl | exact fS rfl)))
    (apply wls; exact st_call rfl ent20 rfl (c20 _ _ _ hpos (by omega)))
    rintro _ w ⟨rfl, hk⟩
    have hp := hp.call hk
    (apply wlp; exact pv_assign; exact int_eq hkk)
    (repeat (with_reducible first | apply wpl_nil | apply thenQ_n))
    refine WP_drawS mixed (by kernel_rfl) (fun w' => Hp w1 [] w' [ownL eEn 46 6 (some ⟨g, 0, none⟩) co xs]) (hp.drew.picks [0] _ rfl rfl) ?_
    have hp := hp.drew
    (repeat ((apply wdp; exact rfl); (intro w hp; intros; ((first | apply pv_move | (apply pf_loadb; exact rfl) | (apply pf_index; exact rfl)) <;> (first | exact rfl | assumption))); (intros; (first | exact fI rfl | exact fP rfl | exact fS rfl))))
    (apply wdp; exact rfl; (intro w hp; exact pf_loads rfl rfl rfl rfl (own_elem hp 0 rfl hvo (fun _ => rfl) hxk)); exact (rfl : _ = enV x.1 x.2))
    (repeat ((apply wdp; exact rfl); (intro w hp; intros; ((first | apply pv_move | (apply pf_index; exact rfl) | (apply pf_index_a; exact rfl)) <;> (first | exact rfl | assumption))); (intros; (first | exact fI rfl | exact fP rfl | exact fS rfl))))
    (apply wdp; exact rfl; (intro w hp; exact pf_index_a (i := 1) rfl rfl rfl (by decide)); exact fP rfl)
    (apply wdp; exact rfl; (intro w hp; exact pf_load rfl rfl (hp.old0 hc1)); exact fI rfl)
    (repeat ((apply wdp; exact rfl); (intro w hp; intros; ((first | apply pv_move | (apply pf_index; exact rfl) | (apply pf_index_a; exact rfl)) <;> (first | exact rfl | assumption))); (intros; (first | exact fI rfl | exact fP rfl | exact fS rfl))))
    (apply wdp; exact rfl; (intro w hp; exact pf_index_a (i := 2) rfl rfl rfl (by decide)); exact fP rfl)
    (apply wdp; exact rfl; (intro w hp; exact pf_load rfl rfl (hp.old0 hc2)); exact fI rfl)
    (repeat ((apply wdp; exact rfl); (intro w hp; intros; ((first | apply pv_move | apply pf_build_a) <;> exact rfl)); (intros; (first | exact fI rfl | exact fA3 rfl))))
    (apply wds; exact rfl; exact st_call rfl ent17 rfl (c17 x.1 x.2 t.2.1 t.2.2 kk (12 + 12 * i) _ (hxm.v.at_ hp (fun p hp => List.mem_append_right [_, _] (List.mem_flatMap.2 ⟨x, hxmem, hp⟩))) hxm.sz hxm.ln (by omega)); rintro _ w ⟨e1, ae1, rfl, hpo, ve1, hze1, hle1⟩; have hp := hp.join hpo; refine ⟨hp.picks [3] _ rfl rfl, ?_⟩)
    (apply wds; exact rfl; exact sf_slice hp rfl rfl rfl rfl rfl rfl rfl; rintro _ w ⟨nb, rfl, hp⟩; refine ⟨hp.picks [4] _ rfl rfl, ?_⟩)
    (apply wdsS; exact rfl; exact rfl; exact sf_app1 eEn xs (e1, ae1) hp 4 0 rfl rfl rfl rfl rfl rfl (fun _ => rfl) rfl rfl rfl hvo rfl rfl (by omega); rintro _ w ⟨s', c', rfl, hv', hp⟩)
    have hp := Hp.tail hp
    have hp : Hp w1 [] w ([ownL eEn 46 6 s' c' (xs ++ [(e1, ae1)]), blk db 13 (frOf (drC d a)) 30] ++ (xs.flatMap enOwn ++ enOwn (e1, ae1))) :=
      hp.perm ((List.perm_append_comm_assoc (enOwn (e1, ae1)) [ownL eEn 46 6 s' c' (xs ++ [(e1, ae1)]), blk db 13 (frOf (drC d a)) 30] (xs.flatMap enOwn)).trans (List.Perm.append_left _ List.perm_append_comm))
    (repeat ((apply wdp; exact rfl); (intro w hp; intros; apply pv_assign); (intros; exact fS rfl)))
    refine wpd_nil ?_
    (repeat (first | (with_reducible first | apply WP_region | apply thenQ_n | apply inBlk_n) | (apply wlp; apply pv_move; exact fI rfl)))
    (apply wlp; exact pv_add rfl rfl; exact int_eq (i64_in (by omega) (by omega)))
    (repeat (first | (with_reducible first | apply wpl_nil | apply thenQ_n) | (apply wlp; apply pv_assign; exact fI rfl)))
    refine ⟨(i + 1, xs ++ [(e1, ae1)], s', c'), put_self (put_self (Same.eq (by repeat (first | exact Same.hav | exact Same.refl | refine Same.put rfl ?_ | refine Same.havs rfl ?_))) rfl) rfl, ⟨by show i + 1 ≤ 6; omega, by show (xs ++ [(e1, ae1)]).length < 7 + (i + 1); simp; omega, hv', ?_, ?_⟩, by show 6 - (i + 1) < 6 - i; omega⟩
    · exact snoc_all (fun y hy => (hO y hy).mono (by omega)) ⟨ve1, hze1, hle1⟩
    · show Hp w1 [] w ([ownL eEn 46 6 s' c' (xs ++ [(e1, ae1)]), blk db 13 (frOf (drC d a)) 30] ++ (xs ++ [(e1, ae1)]).flatMap enOwn)
      rw [List.flatMap_append]
      simpa using hp
  have hO : ∀ y ∈ xs, EnOk 84 y := fun y hy => (hO y hy).mono (by omega)
  have hxl : xs.length < 13 := by omega
  clear h
  (repeat (first | (with_reducible first | apply WP_seq | apply WP_region | apply thenQ_n | apply thenQ_exit | apply WP_exit) | ((with_reducible apply inBlk_same); exact rfl)))
  (apply wlp; (apply pf_loadb; exact rfl; exact rfl; exact rfl; exact hp.agg_blk 1 rfl rfl); exact fA13 rfl)
  (repeat (apply wlp; apply pv_move; exact fS rfl))
  have hxe : ∀ x ∈ xs, EnAt w x.1 x.2 := fun x hx => (hO x hx).v.at_ hp (fun p hp => List.mem_append_right [_, _] (List.mem_flatMap.2 ⟨x, hx, hp⟩))
  (apply wls; exact st_call rfl ent21 rfl (c21 d a xs so co _ (hd.keep hp.keeps) (ownL_At hp 0 rfl hvo (fun _ => rfl)) hxe (fun y hy => (hO y hy).ln.mono (by omega)) (by omega)))
  rintro _ w2 ⟨ins, outs, si, ci, sx, cx, rfl, hvi, hvx, hadm, hE, hpa⟩
  have hxe : ∀ x ∈ xs, EnAt w2 x.1 x.2 := fun x hx => (hxe x hx).keep hpa.keeps
  have hp := hp.joinT [ownL eEn 46 6 si ci ins, ownL eT 91 2 sx cx outs] (ins.flatMap enOwn) hpa
  -- ins, outs, xs, db, their lists
  have hd2 : DrAt w2 d a := hd.keep hp.keeps
  have cD := hp.agg_blk (k := 13) (o := 0) 3 rfl rfl
  have sI : SlAt w2 6 eEn si ins := ownL_At hp 0 rfl hvi (fun _ => rfl)
  have xI : SlAt w2 2 eT sx outs := ownL_At hp 1 rfl hvx (fun _ => rfl)
  have sX : SlAt w2 6 eEn so xs := ownL_At hp 2 rfl hvo (fun _ => rfl)
  have eI2 : ∀ y ∈ ins, EnAt w2 y.1 y.2 := fun y hy => (hE y hy).at_ hp (fun p hp => List.mem_append_right [_, _] (List.mem_append_right _ (List.mem_flatMap.2 ⟨y, hy, hp⟩)))
  have hk2 := hk1.trans hp.keeps (by simp)
  clear hp
  have hA1 : ins.map (·.1) = (adm d (xs.map (·.1))).1 := by rw [← hadm]
  have hA2 : outs = (adm d (xs.map (·.1))).2 := by rw [← hadm]
  have hlen : ins.length + outs.length = xs.length := by
    have h1 := admTo_len (d := d) (es := xs.map (·.1)) (xs.map (·.1)).length (Nat.le_refl _)
    have h2 : (ins.map (·.1), outs) = admTo d (xs.map (·.1)) (xs.map (·.1)).length := by
      rw [hadm]
      unfold adm
      rfl
    rw [← h2] at h1
    simpa using h1
  have hlnI : ∀ y ∈ ins, EnLn y.1 84 := by
    intro y hy
    have hmem : y.1 ∈ (adm d (xs.map (·.1))).1 := by
      rw [← hA1]
      exact List.mem_map_of_mem hy
    obtain ⟨x, hx, e1⟩ := List.mem_map.1 (adm_mem hmem)
    rw [← e1]
    exact (hO x hx).ln
  have ci1 := hvi.cap
  have cx1 := hvx.cap
  have co1 := hvo.cap
  have hp := Hp.start (M := []) (w := w2)
  (repeat (first | (with_reducible first | apply WP_seq | apply WP_region | apply wpl_nil | apply thenQ_n) | (apply wlp; ((first | apply pv_move | apply pv_assign | (apply pf_loadb; exact rfl) | apply pv_extract) <;> (first | exact rfl | assumption)); (first | exact fS rfl | exact fA13 rfl | exact fU rfl))))
  (apply wls; exact st_call rfl ent21 rfl (c21 d a ins si ci _ (hd2.keep hp.keeps) (sI.keep0 hp.keeps) (fun y hy => (eI2 y hy).keep hp.keeps) (fun y hy => (hlnI y hy).mono (by omega)) (by omega)))
  rintro _ w3 ⟨ins2, outs2, si2, ci2, sx2, cx2, rfl, hvi2, hvx2, hadm2, hE2, hpa⟩
  have hp := hp.joinT [ownL eEn 46 6 si2 ci2 ins2, ownL eT 91 2 sx2 cx2 outs2] (ins2.flatMap enOwn) hpa
  rw [hA1, adm_idem] at hadm2
  have hB1 : ins2.map (·.1) = ins.map (·.1) := by rw [(Prod.mk.inj hadm2).1, hA1]
  have hB2 : outs2 = [] := (Prod.mk.inj hadm2).2
  subst hB2
  have sI2 : SlAt w3 6 eEn si2 ins2 := ownL_At hp 0 rfl hvi2 (fun _ => rfl)
  have eI3 : ∀ y ∈ ins2, EnAt w3 y.1 y.2 := fun y hy => (hE2 y hy).at_ hp (fun p hp => List.mem_append_right [_, _] (List.mem_append_right _ (List.mem_flatMap.2 ⟨y, hy, hp⟩)))
  have hd3 : DrAt w3 d a := hd2.keep hp.keeps
  have cD3 : ∀ (j : Nat) (v : Value), _ → w3.cell? _ = some v := fun j v hv => hp.old0 (cD j v hv)
  have sI : SlAt w3 6 eEn si ins := sI.keep0 hp.keeps
  have xI : SlAt w3 2 eT sx outs := xI.keep0 hp.keeps
  have sX : SlAt w3 6 eEn so xs := sX.keep0 hp.keeps
  have eI2 : ∀ y ∈ ins, EnAt w3 y.1 y.2 := fun y hy => (eI2 y hy).keep hp.keeps
  have hxe : ∀ x ∈ xs, EnAt w3 x.1 x.2 := fun x hx => (hxe x hx).keep hp.keeps
  have hk3 := hk2.trans hp.keeps (by simp)
  clear hp
  have hp := Hp.start (M := []) (w := w3)
  (apply wlp; apply pv_move; exact fU rfl)
  (apply wlp; (apply pv_extract <;> exact rfl); exact fS rfl)
  (apply wlp; (apply pv_extract <;> exact rfl); exact fS rfl)
  (apply wlp; apply pv_assign; exact fS rfl)
  (apply wlp; apply pv_assign; exact fS rfl)
  (repeat (with_reducible first | apply WP_seq | apply WP_region | apply wpl_nil | apply thenQ_n))
  (apply wlp; apply pv_move; exact fS rfl)
  (apply wlp; ((apply pf_len; exact rfl) <;> exact rfl); exact fI rfl)
  (apply wlp; apply pv_move; exact fS rfl)
  (apply wlp; ((apply pf_len; exact rfl) <;> exact rfl); exact fI rfl)
  (apply wlp; exact pv_add rfl rfl; exact int_eq (i64_in (by omega) (by omega)))
  (apply wlp; apply pv_move; exact fS rfl)
  (apply wlp; ((apply pf_len; exact rfl) <;> exact rfl); exact fI rfl)
  (apply wlp; exact pv_neq rfl rfl; exact bool_eq (b := false) (by simp; omega))
  (apply wlp; apply pv_move; exact fB rfl)
  ((apply wlpT; exact rfl; exact rfl); (apply pv_move); (intros; exact fS rfl))
  ((apply wlpT; exact rfl; exact rfl); (apply pv_move); (intros; exact fS rfl))
  (apply wlsT; exact rfl; exact rfl; exact st_call rfl ent23 rfl (c23 ins ins2 si si2 ci ci2 _ (by omega) hB1.symm (sI.keep0 hp.keeps) (sI2.keep0 hp.keeps) (fun y hy => (eI2 y hy).keep hp.keeps) (fun y hy => (eI3 y hy).keep hp.keeps) (fun y hy => (hlnI y hy).mono (by omega))); rintro _ w ⟨rfl, hk⟩; have hp := hp.call hk)
  (apply wlpT; exact rfl; exact rfl; exact pv_not rfl; exact bool_eq (b := false) rfl)
  (apply wlp; exact pv_or' rfl rfl; exact bool_eq (b := false) rfl)
  (apply wlp; apply pv_move; exact fB rfl)
  ((apply wlpT; exact rfl; exact rfl); (apply pv_move); (intros; exact fS rfl))
  ((apply wlpT; exact rfl; exact rfl); (((apply pf_len; exact rfl) <;> exact rfl)); (intros; exact fI rfl))
  (apply wlpT; exact rfl; exact rfl; exact pv_neq rfl rfl; exact bool_eq (b := false) rfl)
  (apply wlp; exact pv_or' rfl rfl; exact bool_eq (b := false) rfl)
  (repeat (with_reducible first | apply wpl_nil | apply thenQ_n))
  refine WP_cond_f rfl ?_
  ((repeat (with_reducible first | apply WP_seq | apply WP_region | apply thenQ_n | apply WP_skip)); (apply wlp; apply pv_assign; exact fI rfl))
  refine wpl_nil ?_
  refine thenQ_n ?_
  refine WP_seq ?_
  refine WP_mid (fun F w => ∃ m : Nat, m ≤ xs.length ∧ FrHas F [(7, .bool true), (8, .pointer (some ⟨db, 0, none⟩)), (9, .slice so xs.length co), (12, .slice si ins.length ci), (13, .slice sx outs.length cx), (16, .int .i64 m)] ∧ Hp w3 [] w []) ?_ ?_
  · (repeat (first | (with_reducible first | apply WP_seq | apply WP_region | apply wpl_nil | apply thenQ_n) | (apply wlp; ((first | apply pv_move | (apply pf_len; exact rfl) | apply pv_gtr) <;> exact rfl); (first | exact fI rfl | exact fB rfl | exact fS rfl))))
    refine WP_cond_d rfl (fun h => ?_) (fun h => ?_)
    · have t1 := Int.tmod_nonneg ((xs.length : Int) + 1) hk0.1
      have t2 := Int.tmod_lt_of_pos k (b := (xs.length : Int) + 1) (by omega)
      obtain ⟨m, hm, hml⟩ : ∃ m : Nat, k.tmod ((xs.length : Int) + 1) = m ∧ m ≤ xs.length := ⟨(k.tmod ((xs.length : Int) + 1)).toNat, by omega, by omega⟩
      ((repeat with_reducible apply WP_region); (apply wlp; apply pv_move; exact fI rfl))
      (apply wlp; exact pf_conv rfl rfl rfl; exact int_eq (i64_in (by omega) (by omega)))
      (apply wlp; apply pv_move; exact fS rfl)
      (apply wlp; ((apply pf_len; exact rfl) <;> exact rfl); exact fI rfl)
      (apply wlp; exact pv_add rfl rfl; exact int_eq (i64_in (by omega) (by omega)))
      (apply wlp; exact pv_rem rfl rfl (by omega); exact int_eq hm)
      (repeat (first | (with_reducible first | apply wpl_nil | apply thenQ_n) | (apply wlp; apply pv_assign; exact fI rfl)))
      exact ⟨m, hml, ⟨rfl, rfl, rfl, rfl, rfl, rfl, trivial⟩, hp⟩
    · (repeat (with_reducible first | apply thenQ_n | apply WP_skip))
      exact ⟨0, Nat.zero_le _, ⟨rfl, rfl, rfl, rfl, rfl, rfl, trivial⟩, hp⟩
  clear hp
  rintro F w ⟨m, hml, hF, hp⟩
  rw [puts_self hF]
  have htl : (xs.take m).length = m := by rw [List.length_take]; omega
  (repeat with_reducible apply WP_seq)
  refine WP_drawS mixed (by kernel_rfl) (fun w' => Hp w3 [] w' []) hp.drew ?_
  have hp := hp.drew
  (apply wdp; exact rfl; (intro w hp; apply pf_loadb; exact rfl; exact rfl; exact rfl; exact fun j v hv => hp.old0 (cD3 j v hv)); exact fA13 rfl)
  (repeat ((apply wdp; exact rfl); (intro w hp; intros; apply pv_move); (intros; (first | exact fI rfl | exact fS rfl))))
  (apply wdp; exact rfl; (intro w hp; exact pv_sliceTo (h := (xs.take m).length) rfl rfl ((rfl : _ = Value.int .i64 m).trans (int_eq (by rw [htl]))) (by omega)); exact fS rfl)
  (apply wds; exact rfl; exact st_call rfl ent21 rfl (c21 d a (xs.take m) so co _ (hd3.keep hp.keeps) (SlAt_take (sX.keep0 hp.keeps) m) (fun y hy => (hxe y (List.mem_of_mem_take hy)).keep hp.keeps) (fun y hy => (hO y (List.mem_of_mem_take hy)).ln.mono (by omega)) (by omega)))
  rintro _ w4 ⟨ins3, outs3, si3, ci3, sx3, cx3, rfl, hvi3, hvx3, hadm3, hE3, hpa⟩
  have hp := hp.joinT [ownL eEn 46 6 si3 ci3 ins3, ownL eT 91 2 sx3 cx3 outs3] (ins3.flatMap enOwn) hpa
  refine ⟨hp.sub (List.nil_sublist _), ?_⟩
  (repeat ((apply wdp; exact rfl); (intro w hp; intros; ((first | apply pv_move | apply pv_assign | apply pv_extract) <;> exact rfl)); (intros; (first | exact fS rfl | exact fU rfl))))
  refine wpd_nil ?_
  rw [map_take_eq, adm_take (by rw [List.length_map]; exact hml)] at hadm3
  obtain ⟨p1, p2, p3, p4⟩ := adm_pre (d := d) (es := xs.map (·.1)) (k := m) (by rw [List.length_map]; exact hml)
  rw [← hadm3, ← hA1] at p1 p2
  rw [← hadm3, ← hA2] at p3 p4
  have p1 : ins3.length ≤ ins.length := by simpa using p1
  have p2 : ins3.map (·.1) = (ins.map (·.1)).take ins3.length := by simpa using p2
  have p3 : outs3.length ≤ outs.length := p3
  have p4 : outs3 = outs.take outs3.length := p4
  have p5 : ins3.length + outs3.length = m := by
    have h1 := admTo_len (d := d) (es := xs.map (·.1)) m (by rw [List.length_map]; exact hml)
    rw [← hadm3] at h1
    simpa using h1
  have sI3 : SlAt w4 6 eEn si3 ins3 := ownL_At hp 0 rfl hvi3 (fun _ => rfl)
  have xI3 : SlAt w4 2 eT sx3 outs3 := ownL_At hp 1 rfl hvx3 (fun _ => rfl)
  have eI4 : ∀ y ∈ ins3, EnAt w4 y.1 y.2 := fun y hy => (hE3 y hy).at_ hp (fun p hp => List.mem_append_right [_, _] (List.mem_append_right _ (List.mem_flatMap.2 ⟨y, hy, hp⟩)))
  have sI : SlAt w4 6 eEn si ins := sI.keep0 hp.keeps
  have xI : SlAt w4 2 eT sx outs := xI.keep0 hp.keeps
  have eI2 : ∀ y ∈ ins, EnAt w4 y.1 y.2 := fun y hy => (eI2 y hy).keep hp.keeps
  have hk4 := hk3.trans hp.keeps (by simp)
  have hln3 : ∀ y ∈ ins3, EnLn y.1 1000000000 := by
    intro y hy
    have hmem : y.1 ∈ (ins.map (·.1)).take ins3.length := by
      rw [← p2]
      exact List.mem_map_of_mem hy
    obtain ⟨v, hv, e1⟩ := List.mem_map.1 (List.mem_of_mem_take hmem)
    rw [← e1]
    exact (hlnI v hv).mono (by omega)
  have xT : SlAt w4 2 eT sx outs3 := by
    rw [p4]
    exact SlAt_take xI _
  have q1 : (ins.take ins3.length).length = ins3.length := by rw [List.length_take]; omega
  clear hp
  have hp := Hp.start (M := []) (w := w4)
  ((repeat (with_reducible first | apply WP_seq | apply WP_region | apply thenQ_n)); (apply wlp; apply pv_move; exact fB rfl); (apply wlp; apply pv_move; exact fB rfl))
  ((apply wlpT; exact rfl; exact rfl); (apply pv_move); (intros; exact fS rfl))
  ((apply wlpT; exact rfl; exact rfl); (((apply pf_len; exact rfl) <;> exact rfl)); (intros; exact fI rfl))
  ((apply wlpT; exact rfl; exact rfl); (apply pv_move); (intros; exact fS rfl))
  ((apply wlpT; exact rfl; exact rfl); (((apply pf_len; exact rfl) <;> exact rfl)); (intros; exact fI rfl))
  (apply wlpT; exact rfl; exact rfl; exact pv_leq rfl rfl; exact bool_eq (b := true) (by simp; omega))
  (apply wlp; exact pv_and' rfl rfl; exact bool_eq (b := true) rfl)
  (apply wlp; apply pv_move; exact fB rfl)
  ((apply wlpT; exact rfl; exact rfl); (apply pv_move); (intros; exact fS rfl))
  ((apply wlpT; exact rfl; exact rfl); (apply pv_move); (intros; exact fS rfl))
  ((apply wlpT; exact rfl; exact rfl); (apply pv_move); (intros; exact fS rfl))
  ((apply wlpT; exact rfl; exact rfl); (((apply pf_len; exact rfl) <;> exact rfl)); (intros; exact fI rfl))
  ((apply wlpT; exact rfl; exact rfl); (apply pv_move); (intros; exact fS rfl))
  ((apply wlpT; exact rfl; exact rfl); (((apply pf_len; exact rfl) <;> exact rfl)); (intros; exact fI rfl))
  ((apply wlpT; exact rfl; exact rfl); ((apply pv_min <;> exact rfl)); (intros; exact fI rfl))
  (apply wlpT; exact rfl; exact rfl; exact pv_sliceTo (h := (ins.take ins3.length).length) rfl rfl ((rfl : _ = Value.int .i64 (min (ins3.length : Int) ins.length)).trans (int_eq (by rw [q1]; omega))) (by omega); exact fS rfl)
  (apply wlsT; exact rfl; exact rfl; exact st_call rfl ent23 rfl (c23 ins3 (ins.take ins3.length) si3 si ci3 ci _ (by omega) (by rw [p2, map_take_eq]) (sI3.keep0 hp.keeps) (SlAt_take (sI.keep0 hp.keeps) _) (fun y hy => (eI4 y hy).keep hp.keeps) (fun y hy => (eI2 y (List.mem_of_mem_take hy)).keep hp.keeps) hln3); rintro _ w ⟨rfl, hk⟩; have hp := hp.call hk)
  (apply wlp; exact pv_and' rfl rfl; exact bool_eq (b := true) rfl)
  (apply wlp; apply pv_move; exact fB rfl)
  ((apply wlpT; exact rfl; exact rfl); (apply pv_move); (intros; exact fS rfl))
  ((apply wlpT; exact rfl; exact rfl); (((apply pf_len; exact rfl) <;> exact rfl)); (intros; exact fI rfl))
  ((apply wlpT; exact rfl; exact rfl); (apply pv_move); (intros; exact fS rfl))
  ((apply wlpT; exact rfl; exact rfl); (((apply pf_len; exact rfl) <;> exact rfl)); (intros; exact fI rfl))
  (apply wlpT; exact rfl; exact rfl; exact pv_leq rfl rfl; exact bool_eq (b := true) (by simp; omega))
  (apply wlp; exact pv_and' rfl rfl; exact bool_eq (b := true) rfl)
  (apply wlp; apply pv_move; exact fB rfl)
  ((apply wlpT; exact rfl; exact rfl); (apply pv_move); (intros; exact fS rfl))
  ((apply wlpT; exact rfl; exact rfl); (apply pv_move); (intros; exact fS rfl))
  ((apply wlpT; exact rfl; exact rfl); (apply pv_move); (intros; exact fS rfl))
  ((apply wlpT; exact rfl; exact rfl); (((apply pf_len; exact rfl) <;> exact rfl)); (intros; exact fI rfl))
  ((apply wlpT; exact rfl; exact rfl); (apply pv_move); (intros; exact fS rfl))
  ((apply wlpT; exact rfl; exact rfl); (((apply pf_len; exact rfl) <;> exact rfl)); (intros; exact fI rfl))
  ((apply wlpT; exact rfl; exact rfl); ((apply pv_min <;> exact rfl)); (intros; exact fI rfl))
  (apply wlpT; exact rfl; exact rfl; exact pv_sliceTo (h := outs3.length) rfl rfl ((rfl : _ = Value.int .i64 (min (outs3.length : Int) outs.length)).trans (int_eq (by omega))) (by omega); exact fS rfl)
  (apply wlsT; exact rfl; exact rfl; exact st_call rfl ent24 rfl (c24 outs3 sx3 sx cx3 cx _ (by omega) (xI3.keep0 hp.keeps) (xT.keep0 hp.keeps)); rintro _ w ⟨rfl, hk⟩; have hp := hp.call hk)
  (apply wlp; exact pv_and' rfl rfl; exact bool_eq (b := true) rfl)
  (apply wlp; apply pv_move; exact fB rfl)
  ((apply wlpT; exact rfl; exact rfl); (apply pv_move); (intros; exact fS rfl))
  ((apply wlpT; exact rfl; exact rfl); (((apply pf_len; exact rfl) <;> exact rfl)); (intros; exact fI rfl))
  ((apply wlpT; exact rfl; exact rfl); (apply pv_move); (intros; exact fS rfl))
  ((apply wlpT; exact rfl; exact rfl); (((apply pf_len; exact rfl) <;> exact rfl)); (intros; exact fI rfl))
  (apply wlpT; exact rfl; exact rfl; exact pv_add rfl rfl; exact int_eq (i64_in (by omega) (by omega)))
  ((apply wlpT; exact rfl; exact rfl); (apply pv_move); (intros; exact fI rfl))
  (apply wlpT; exact rfl; exact rfl; exact pv_eql rfl rfl; exact bool_eq (b := true) (by simp; omega))
  (apply wlp; exact pv_and' rfl rfl; exact bool_eq (b := true) rfl)
  (repeat (first | (with_reducible first | apply wpl_nil | apply thenQ_n | apply WP_ret) | (apply wlp; apply pv_assign; exact fB rfl)))
  exact ret_tmp rfl rfl ⟨_, rfl, rfl, hk4.trans hp.keeps (by simp)⟩
end Go.Proofs.Ytgephdcapajaiaa
