/- Layer 14: the law TypesAdmits returns true; conditions: numbers and changes lie in memory. -/
import Derived.Test.YtgephdcapajaiaaAdm3
namespace Go.Proofs.Ytgephdcapajaiaa
open Go.Eng
/-- an entrant in memory of its own, its lists not long -/
structure EnOk (k : Nat) (x : En × EnA) : Prop where
  v : EnVl x
  sz : EnSz x.1
  ln : EnLn x.1 k
theorem EnOk.mono {k m : Nat} {x : En × EnA} (h : EnOk k x) (hkm : k ≤ m) : EnOk m x := ⟨h.v, h.sz, ⟨Nat.le_trans h.ln.picks hkm, Nat.le_trans h.ln.wishes hkm, Nat.le_trans h.ln.groups hkm⟩⟩
/-- an entrant of the long list: but for its id it is one of the others -/
structure Like (xs : List (En × EnA)) (y : En × EnA) : Prop where
  ex : ∃ x ∈ xs, y.2 = x.2 ∧ y.1.picks = x.1.picks ∧ y.1.wishes = x.1.wishes ∧ y.1.groups = x.1.groups
theorem Like.at_ {xs : List (En × EnA)} {y : En × EnA} {w : World} (h : Like xs y) (hx : ∀ x ∈ xs, EnAt w x.1 x.2) : EnAt w y.1 y.2 := by
  obtain ⟨x, hm, e1, e2, e3, e4⟩ := h.ex
  have := hx x hm
  exact ⟨by rw [e1, e2]; exact this.picks, by rw [e1, e3]; exact this.wishes, by rw [e1, e4]; exact this.groups⟩
theorem Like.sz {xs : List (En × EnA)} {y : En × EnA} {k : Nat} (h : Like xs y) (hx : ∀ x ∈ xs, EnOk k x) : EnSz y.1 := by
  obtain ⟨x, hm, e1, e2, e3, e4⟩ := h.ex
  exact ⟨by rw [e4]; exact (hx x hm).sz.groups⟩
theorem Like.ln {xs : List (En × EnA)} {y : En × EnA} {k : Nat} (h : Like xs y) (hx : ∀ x ∈ xs, EnOk k x) : EnLn y.1 k := by
  obtain ⟨x, hm, e1, e2, e3, e4⟩ := h.ex
  exact ⟨by rw [e2]; exact (hx x hm).ln.picks, by rw [e3]; exact (hx x hm).ln.wishes, by rw [e4]; exact (hx x hm).ln.groups⟩
theorem EnLn.mono {e : En} {k m : Nat} (h : EnLn e k) (hkm : k ≤ m) : EnLn e m := ⟨Nat.le_trans h.picks hkm, Nat.le_trans h.wishes hkm, Nat.le_trans h.groups hkm⟩
attribute [local irreducible] PV StepF wpl wpd WP Ret
attribute [local irreducible] chk entC adm

set_option maxHeartbeats 4000000 in
theorem c7 (y z : Option Addr × List Int × Nat) (s : Option Addr) (c : Nat) (q : List (Int × Int × Int)) (k : Int) (w0 : World) (hy : IntsOk w0 y) (hz : IntsOk w0 z) (hq : SlAt w0 3 e3 s q) (hk0 : 0 ≤ k ∧ k ≤ 255) :
    Ret Try.prog 7 [.agg #[.slice y.1 y.2.1.length y.2.2, .slice z.1 z.2.1.length z.2.2], .slice s q.length c, .int .u8 k] w0 (fun v w' => v = .bool true ∧ Keeps [] w0 w') := by
  refine Ret.of_WP Try.func7 rfl Try.ntmps7 rfl ?_
  have hp := Hp.start (M := []) (w := w0)
  ((repeat (with_reducible first | apply WP_seq | apply WP_region)); apply wls; exact sbox2 hp rfl; rintro _ w ⟨lb, rfl, hp⟩)
  (repeat (first | (with_reducible first | apply WP_seq | apply WP_region | apply wpl_nil | apply thenQ_n) | (apply wlp; apply pv_assign; exact fB rfl)))
  (apply wls; exact st_call rfl ent10 rfl (c10 _))
  rintro _ w ⟨rfl, hk⟩
  have hp := hp.call hk
  (repeat (first | (with_reducible first | apply WP_seq | apply WP_region | apply wpl_nil | apply thenQ_n) | (apply wlp; ((first | apply pv_assign | (apply pf_index_a; exact rfl)) <;> exact rfl); exact fB rfl)))
  (apply wlp; exact pf_index_a (i := 0) rfl rfl rfl (by decide); exact fP rfl)
  (apply wlp; exact pf_load rfl rfl (hp.cell 0 rfl rfl); exact fS rfl)
  (apply wls; exact st_call rfl ent11 rfl (c11 y.2.1 y.1 y.2.2 _ (hy.at_.keep0 hp.keeps) (Nat.le_trans hy.cap hy.mx)))
  rintro _ w1 ⟨d, a, rfl, hk, hG⟩
  have hp := hp.call hk
  have clz : w1.cell? ⟨lb, 0 + 1 * 1, none⟩ = some (.slice z.1 z.2.1.length z.2.2) := hp.cell 0 rfl rfl
  have hk1 := hp.keeps
  clear hp hk
  have hq1 : SlAt w1 3 e3 s q := hq.keep0 hk1
  have hp := Hp.start (M := []) (w := w1)
  have hd : DrAt w1 d a := hG.at_
  (apply wls; exact salloc13 hp (zeroTy_ok rfl); rintro _ w ⟨db, rfl, hp⟩)
  (apply wls0; exact sstore13 hp 0 rfl rfl rfl rfl (sizeTy_ok rfl) rfl; rintro _ w ⟨rfl, hp⟩)
  have hp := hp.norm 0 (drC d a) rfl rfl
  (repeat (first | (with_reducible first | apply WP_seq | apply WP_region | apply wpl_nil | apply thenQ_n) | (apply wlp; ((first | (apply pf_loadb; exact rfl) | (apply pf_index_a; exact rfl)) <;> (first | exact rfl | exact hp.agg_blk 0 rfl rfl)); exact fA13 rfl)))
  (apply wlp; exact pf_index_a (i := 1) rfl rfl rfl (by decide); exact fP rfl)
  (apply wlp; exact pf_load rfl rfl (hp.old0 clz); exact fS rfl)
  (apply wls; exact st_call rfl ent16 rfl (c16 d a z.2.1 z.1 z.2.2 _ (hd.keep hp.keeps) hG.ok (hz.at_.keep0 (hk1.trans hp.keeps (by simp))) (Nat.le_trans hz.cap hz.mx)))
  rintro _ w ⟨xs, so, co, rfl, hvo, hmap, hE, hpE⟩
  have hp := hp.joinT [ownL eEn 46 6 so co xs] (xs.flatMap enOwn) hpE
  have hxl : xs.length < 7 := by
    have h1 := congrArg List.length hmap
    have h2 := nx_lt z.2.1 0 (n := 7) (by decide)
    have h3 := nx_nonneg z.2.1 0 (n := 7) (by decide)
    unfold entsOf at h1
    simp at h1
    omega
  have hO : ∀ x ∈ xs, EnOk 12 x := by
    intro x hx
    obtain ⟨je, ie, _, hxe1⟩ := ents_mem hmap hx
    exact ⟨hE x hx, by rw [hxe1]; exact entE_sz _ _ _ _, by rw [hxe1]; exact entE_ln hG.ok _ _ _⟩
  clear hE hmap
  (repeat (first | (with_reducible first | apply WP_seq | apply WP_block | apply WP_region | apply wpl_nil | apply thenQ_n) | (apply wlp; apply pv_assign; (first | exact fI rfl | exact fS rfl))))
  refine WP_fresh [(1, .slice s q.length c), (2, .int .u8 k), (7, .bool true), (8, .pointer (some ⟨db, 0, none⟩)), (9, .slice so xs.length co), (10, .int .i64 0)] ⟨rfl, rfl, rfl, rfl, rfl, rfl, trivial⟩ ?_
  intro F0
  refine WP_loopS [9, 10, 11, 28, 29, 30, 31, 32, 33, 34, 35, 36, 37, 38, 39, 40, 41, 42, 43, 44, 45, 46, 47, 48, 49, 50, 51, 52, 53, 54, 55, 56, 57, 58, 59, 60, 61, 62, 63, 64, 65, 66, 67, 68, 69, 70] (fun (x : Nat × List (En × EnA) × Option Addr × Nat) F => (F.put 10 (.int .i64 x.1)).put 9 (.slice x.2.2.1 x.2.1.length x.2.2.2))
    (fun x w' => x.1 ≤ 6 ∧ x.2.1.length < 7 + x.1 ∧ SVL x.2.2.1 x.2.2.2 x.2.1 ∧ (∀ y ∈ x.2.1, EnOk (12 + 12 * x.1) y) ∧ Hp w1 [] w' ([ownL eEn 46 6 x.2.2.1 x.2.2.2 x.2.1, blk db 13 (frOf (drC d a)) 30] ++ x.2.1.flatMap enOwn))
    (fun x => 6 - x.1) (0, xs, so, co) (put_self (put_self (Same.eq .refl) rfl) rfl) ⟨by simp, by simpa using hxl, hvo, hO, hp⟩ ?_
  clear hp hvo hO hxl
  rintro u ⟨i, xs, so, co⟩ w ⟨hi, hxl, hvo, hO, hp⟩
  have hi : i ≤ 6 := hi
  have hxl : xs.length < 7 + i := hxl
  have hvo : SVL so co xs := hvo
  have hO : ∀ y ∈ xs, EnOk (12 + 12 * i) y := hO
  have hp : Hp w1 [] w ([ownL eEn 46 6 so co xs, blk db 13 (frOf (drC d a)) 30] ++ xs.flatMap enOwn) := hp
  (repeat (first | (with_reducible first | apply WP_seq | apply WP_region | apply wpl_nil | apply thenQ_n) | ((first | apply wlp | (apply wlg; exact rfl; exact rfl)); (intros; ((first | apply pv_move | (apply pf_len; exact rfl) | exact pv_and rfl rfl rfl | apply pv_lss | apply pv_gtr) <;> (first | exact rfl | exact ev_sel rfl (by assumption)))); (intros; (first | exact fI rfl | exact fB rfl | exact fS rfl)))))
  refine WP_cond rfl (fun h => ?_) (fun h => ?_)
  · have h : ((decide ((i : Int) < q.length) && decide ((i : Int) < 6)) && decide (0 < (xs.length : Int))) = true := h
    simp at h
    obtain ⟨⟨hiq, hi6⟩, hx0⟩ := h
    obtain ⟨qb, qo, hsq, hqc0⟩ := hq1.base (by omega)
    have hqc := hqc0 i _ (List.getElem?_eq_getElem hiq)
    obtain ⟨t, ht⟩ : ∃ t, t = q[i] := ⟨_, rfl⟩
    rw [← ht] at hqc
    have hc0 : w1.cell? ⟨qb, qo + i * 3 + 0 * 1, none⟩ = some (.int .i64 t.1) := hqc 0 _ rfl
    have hc1 : w1.cell? ⟨qb, qo + i * 3 + 1 * 1, none⟩ = some (.int .i64 t.2.1) := hqc 1 _ rfl
    have hc2 : w1.cell? ⟨qb, qo + i * 3 + 2 * 1, none⟩ = some (.int .i64 t.2.2) := hqc 2 _ rfl
    have hne : xs ≠ [] := by
      rintro rfl
      simp at hx0
    obtain ⟨g, rfl⟩ := hvo.addr hne
    have hpos : (0 : Int) < xs.length := by omega
    obtain ⟨kk, hkk, hku⟩ : ∃ kk : Nat, t.1 % (xs.length : Int) = kk ∧ kk < xs.length := by
      have h1 := Int.emod_nonneg t.1 (b := (xs.length : Int)) (by omega)
      have h2 := Int.emod_lt_of_pos t.1 hpos
      exact ⟨(t.1 % (xs.length : Int)).toNat, by omega, by omega⟩
    have hxk := List.getElem?_eq_getElem hku
    have hxm := hO _ (List.getElem_mem hku)
    have hxmem : xs[kk] ∈ xs := List.getElem_mem hku
    obtain ⟨x, hx⟩ : ∃ x, x = xs[kk] := ⟨_, rfl⟩
    rw [← hx] at hxk hxm hxmem
    (repeat (first | (with_reducible first | apply WP_seq | apply WP_block | apply WP_region | apply thenQ_n | apply WP_skip) | (apply wlp; ((first | apply pv_move | (apply pf_index; exact rfl) | (apply pf_index_a; exact rfl)) <;> (first | exact rfl | assumption)); (first | exact fI rfl | exact fP rfl | exact fS rfl))))
    (apply wlp; exact pf_index_a (i := 0) rfl rfl rfl (by decide); exact fP rfl)
    (apply wlp; exact pf_load rfl rfl (hp.old0 hc0); exact fI rfl)
    (repeat (apply wlp; ((first | apply pv_move | (apply pf_len; exact rfl)) <;> exact rfl); (first | exact fI rfl | exact fS rfl)))
    (apply wls; exact st_call rfl ent20 rfl (c20 _ _ _ hpos (by omega)))
    rintro _ w ⟨rfl, hk⟩
    have hp := hp.call hk
    (apply wlp; exact pv_assign; exact int_eq hkk)
    (repeat (with_reducible first | apply wpl_nil | apply thenQ_n))
    refine WP_drawS mixed (by kernel_rfl) (fun w' => Hp w1 [] w' [ownL eEn 46 6 (some ⟨g, 0, none⟩) co xs]) (hp.drew.picks [0] _ rfl rfl) ?_
    have hp := hp.drew
    (repeat ((apply wdp; exact rfl); (intro w hp; intros; ((first | apply pv_move | (apply pf_loadb; exact rfl) | (apply pf_index; exact rfl)) <;> (first | exact rfl | assumption))); (intros; (first | exact fI rfl | exact fP rfl | exact fS rfl))))
    (apply wdp; exact rfl; (intro w hp; exact pf_loads rfl rfl rfl rfl (own_elem hp 0 rfl hvo (fun _ => rfl) hxk)); exact (rfl : _ = enV x.1 x.2))
    (repeat ((apply wdp; exact rfl); (intro w hp; intros; ((first | apply pv_move | (apply pf_index; exact rfl) | (apply pf_index_a; exact rfl)) <;> (first | exact rfl | assumption))); (intros; (first | exact fI rfl | exact fP rfl | exact fS rfl))))
    (apply wdp; exact rfl; (intro w hp; exact pf_index_a (i := 1) rfl rfl rfl (by decide)); exact fP rfl)
    (apply wdp; exact rfl; (intro w hp; exact pf_load rfl rfl (hp.old0 hc1)); exact fI rfl)
    (repeat ((apply wdp; exact rfl); (intro w hp; intros; ((first | apply pv_move | (apply pf_index; exact rfl) | (apply pf_index_a; exact rfl)) <;> (first | exact rfl | assumption))); (intros; (first | exact fI rfl | exact fP rfl | exact fS rfl))))
    (apply wdp; exact rfl; (intro w hp; exact pf_index_a (i := 2) rfl rfl rfl (by decide)); exact fP rfl)
    (apply wdp; exact rfl; (intro w hp; exact pf_load rfl rfl (hp.old0 hc2)); exact fI rfl)
    (repeat ((apply wdp; exact rfl); (intro w hp; intros; ((first | apply pv_move | apply pf_build_a) <;> exact rfl)); (intros; (first | exact fI rfl | exact fA3 rfl))))
    (apply wds; exact rfl; exact st_call rfl ent17 rfl (c17 x.1 x.2 t.2.1 t.2.2 kk (12 + 12 * i) _ (hxm.v.at_ hp (fun p hp => List.mem_append_right [_, _] (List.mem_flatMap.2 ⟨x, hxmem, hp⟩))) hxm.sz hxm.ln (by omega)); rintro _ w ⟨e1, ae1, rfl, hpo, ve1, hze1, hle1⟩; have hp := hp.join hpo; refine ⟨hp.picks [3] _ rfl rfl, ?_⟩)
    (apply wds; exact rfl; exact sf_slice hp rfl rfl rfl rfl rfl rfl rfl; rintro _ w ⟨nb, rfl, hp⟩; refine ⟨hp.picks [4] _ rfl rfl, ?_⟩)
    (apply wdsS; exact rfl; exact rfl; exact sf_app1 eEn xs (e1, ae1) hp 4 0 rfl rfl rfl rfl rfl rfl (fun _ => rfl) rfl rfl rfl hvo rfl rfl (by omega); rintro _ w ⟨s', c', rfl, hv', hp⟩)
    have hp := Hp.tail hp
    have hp : Hp w1 [] w ([ownL eEn 46 6 s' c' (xs ++ [(e1, ae1)]), blk db 13 (frOf (drC d a)) 30] ++ (xs.flatMap enOwn ++ enOwn (e1, ae1))) :=
      hp.perm ((List.perm_append_comm_assoc (enOwn (e1, ae1)) [ownL eEn 46 6 s' c' (xs ++ [(e1, ae1)]), blk db 13 (frOf (drC d a)) 30] (xs.flatMap enOwn)).trans (List.Perm.append_left _ List.perm_append_comm))
    (repeat ((apply wdp; exact rfl); (intro w hp; intros; apply pv_assign); (intros; exact fS rfl)))
    refine wpd_nil ?_
    (repeat (first | (with_reducible first | apply WP_region | apply thenQ_n | apply inBlk_n) | (apply wlp; apply pv_move; exact fI rfl)))
    (apply wlp; exact pv_add rfl rfl; exact int_eq (i64_in (by omega) (by omega)))
    (repeat (first | (with_reducible first | apply wpl_nil | apply thenQ_n) | (apply wlp; apply pv_assign; exact fI rfl)))
    refine ⟨(i + 1, xs ++ [(e1, ae1)], s', c'), put_self (put_self (Same.eq (by repeat (first | exact Same.hav | exact Same.refl | refine Same.put rfl ?_ | refine Same.havs rfl ?_))) rfl) rfl, ⟨by show i + 1 ≤ 6; omega, by show (xs ++ [(e1, ae1)]).length < 7 + (i + 1); simp; omega, hv', ?_, ?_⟩, by show 6 - (i + 1) < 6 - i; omega⟩
    · exact snoc_all (fun y hy => (hO y hy).mono (by omega)) ⟨ve1, hze1, hle1⟩
    · show Hp w1 [] w ([ownL eEn 46 6 s' c' (xs ++ [(e1, ae1)]), blk db 13 (frOf (drC d a)) 30] ++ (xs ++ [(e1, ae1)]).flatMap enOwn)
      rw [List.flatMap_append]
      simpa using hp
  have hO : ∀ y ∈ xs, EnOk 84 y := fun y hy => (hO y hy).mono (by omega)
  have hxl : xs.length < 13 := by omega
  clear h
  have hd9 : DrAt w1 d a := hd
  (repeat (first | (with_reducible first | apply WP_seq | apply WP_block | apply WP_region | apply wpl_nil | apply thenQ_n | apply thenQ_exit | apply WP_exit) | ((with_reducible apply inBlk_same); exact rfl) | (apply wlp; apply pv_assign; (first | exact fI rfl | exact fS rfl))))
  -- the long list
  obtain ⟨w9, hw9⟩ : ∃ w9, w9 = w := ⟨_, rfl⟩
  rw [← hw9] at hp ⊢
  have hd9 : DrAt w9 d a := hd.keep hp.keeps
  have cD := hp.agg_blk (k := 13) (o := 0) 1 rfl rfl
  have hxs : SlAt w9 6 eEn so xs := ownL_At hp 0 rfl hvo (fun _ => rfl)
  have hxe : ∀ x ∈ xs, EnAt w9 x.1 x.2 := fun x hx => (hO x hx).v.at_ hp (fun p hp => List.mem_append_right [_, _] (List.mem_flatMap.2 ⟨x, hx, hp⟩))
  have hk9 := hk1.trans hp.keeps (by simp)
  clear hp hw9
  have hp := (Hp.start (M := []) (w := w9)).nilL eEn 46 6
  have k0 := Int.tmod_nonneg 9 hk0.1
  have k1 := Int.tmod_lt_of_pos k (b := 9) (by decide)
  refine WP_fresh [(2, .int .u8 k), (7, .bool true), (8, .pointer (some ⟨db, 0, none⟩)), (9, .slice so xs.length co), (12, .slice none 0 0), (13, .int .i64 0)] ⟨rfl, rfl, rfl, rfl, rfl, rfl, trivial⟩ ?_
  intro F1
  refine WP_loopS [12, 13, 14, 15, 71, 72, 73, 74, 75, 76, 77, 78, 79, 80, 81, 82, 83, 84, 85, 86, 87, 88, 89, 90, 91, 92, 93, 94, 95, 96, 97, 98, 99, 100, 101, 102, 103, 104, 105] (fun (x : Nat × List (En × EnA) × Option Addr × Nat) F => (F.put 13 (.int .i64 x.1)).put 12 (.slice x.2.2.1 x.2.1.length x.2.2.2))
    (fun x w' => (x.1 : Int) ≤ k.tmod 9 + 1 ∧ x.2.1.length ≤ x.1 * 13 ∧ SVL x.2.2.1 x.2.2.2 x.2.1 ∧ (∀ y ∈ x.2.1, Like xs y) ∧ Hp w9 [] w' [ownL eEn 46 6 x.2.2.1 x.2.2.2 x.2.1])
    (fun x => (k.tmod 9 + 1 - x.1).toNat) (0, [], none, 0) (put_self (put_self (Same.eq .refl) rfl) rfl) ⟨by simp; omega, by simp, .nil, by simp, hp⟩ ?_
  clear hp
  rintro u2 ⟨m, ys, sl, cl⟩ w ⟨hm, hyl, hvl, hL, hp⟩
  have hm : (m : Int) ≤ k.tmod 9 + 1 := hm
  have hyl : ys.length ≤ m * 13 := hyl
  have hvl : SVL sl cl ys := hvl
  have hL : ∀ y ∈ ys, Like xs y := hL
  have hp : Hp w9 [] w [ownL eEn 46 6 sl cl ys] := hp
  (repeat (first | (with_reducible first | apply WP_seq | apply WP_region) | (apply wlp; apply pv_move; exact fI rfl)))
  (apply wlp; exact pv_rem rfl rfl (by decide); exact fI rfl)
  (apply wlp; exact pf_conv rfl rfl rfl; exact int_eq (i64_in (by omega) (by omega)))
  (repeat (first | (with_reducible first | apply wpl_nil | apply thenQ_n) | (apply wlp; (apply pv_leq <;> exact rfl); exact fB rfl)))
  refine WP_cond_d rfl (fun h => ?_) (fun h => ?_)
  · have h : (m : Int) ≤ k.tmod 9 := h
    (repeat (first | (with_reducible first | apply WP_seq | apply WP_block | apply WP_region | apply wpl_nil | apply thenQ_n | apply WP_skip) | (apply wlp; apply pv_assign; exact fI rfl)))
    refine WP_loopS [12, 14, 15, 78, 79, 80, 81, 82, 83, 84, 85, 86, 87, 88, 89, 90, 91, 92, 93, 94, 95, 96, 97, 98, 99, 100, 101, 102, 103, 104, 105] (fun (x : Nat × List (En × EnA) × Option Addr × Nat) F => (F.put 14 (.int .i64 x.1)).put 12 (.slice x.2.2.1 x.2.1.length x.2.2.2))
      (fun x w' => x.1 ≤ xs.length ∧ x.2.1.length ≤ m * 13 + x.1 ∧ SVL x.2.2.1 x.2.2.2 x.2.1 ∧ (∀ y ∈ x.2.1, Like xs y) ∧ Hp w9 [] w' [ownL eEn 46 6 x.2.2.1 x.2.2.2 x.2.1])
      (fun x => xs.length - x.1) (0, ys, sl, cl) (put_self (put_self (Same.eq .refl) rfl) rfl) ⟨by simp, by simpa using hyl, hvl, hL, hp⟩ ?_
    clear hp hvl hL hyl
    rintro u3 ⟨r, ys, sl, cl⟩ w ⟨hr, hyl, hvl, hL, hp⟩
    have hr : r ≤ xs.length := hr
    have hyl : ys.length ≤ m * 13 + r := hyl
    have hvl : SVL sl cl ys := hvl
    have hL : ∀ y ∈ ys, Like xs y := hL
    have hp : Hp w9 [] w [ownL eEn 46 6 sl cl ys] := hp
    (repeat (first | (with_reducible first | apply WP_seq | apply WP_region | apply wpl_nil | apply thenQ_n) | (apply wlp; ((first | apply pv_move | (apply pf_len; exact rfl) | apply pv_lss) <;> exact rfl); (first | exact fI rfl | exact fB rfl | exact fS rfl))))
    refine WP_cond_d rfl (fun h2 => ?_) (fun h2 => ?_)
    · have h2 : (r : Int) < xs.length := h2
      have hrl : r < xs.length := by omega
      obtain ⟨pb, po, hso, hpc⟩ := hxs.base (by omega)
      have hcx := hpc r _ (List.getElem?_eq_getElem hrl)
      have hxm : xs[r] ∈ xs := List.getElem_mem hrl
      obtain ⟨x, hx⟩ : ∃ x, x = xs[r] := ⟨_, rfl⟩
      rw [← hx] at hcx hxm
      obtain ⟨e, ae⟩ := x
      (repeat (first | (with_reducible first | apply WP_seq | apply WP_block | apply WP_region | apply thenQ_n | apply WP_skip) | (apply wlp; ((first | apply pv_move | (apply pf_loadb; exact rfl) | (apply pf_index; exact rfl)) <;> (first | exact rfl | assumption)); (first | exact fI rfl | exact fP rfl | exact fS rfl))))
      (apply wlp; exact pf_loads rfl rfl rfl rfl (fun j v hv => hp.old0 (hcx j v hv)); exact (rfl : _ = enV e ae))
      (apply wls; exact salloc6 hp (zeroTy_ok rfl); rintro _ w ⟨eb, rfl, hp⟩)
      (apply wls0; exact sstore6 hp 0 rfl rfl rfl rfl (sizeTy_ok rfl) rfl; rintro _ w ⟨rfl, hp⟩)
      have hp := hp.norm 0 (enC e ae) rfl rfl
      (repeat (first | (with_reducible first | apply WP_seq | apply WP_region | apply wpl_nil | apply thenQ_n) | ((first | apply wlp | (apply wlg; exact rfl; exact rfl)); (intros; ((first | apply pv_move | apply pf_field | (apply pf_load; exact rfl) | exact pv_and rfl rfl rfl | apply pv_lss | apply pv_gtr) <;> (first | exact rfl | exact ev_sel rfl (by assumption) | exact hp.cell 0 rfl rfl))); (intros; (first | exact fI rfl | exact fB rfl | exact fP rfl)))))
      refine WP_cond rfl (fun h3 => ?aA) (fun h3 => ?aB)
      case' aA =>
        have h3 : (decide (100 < e.id) && decide (e.id < 1000)) = true := h3
        simp at h3
        (repeat (first | with_reducible apply WP_region | (apply wlp; ((first | apply pv_move | apply pf_field | (apply pf_load; exact rfl)) <;> (first | exact rfl | exact hp.cell 0 rfl rfl)); (first | exact fI rfl | exact fP rfl))))
        (apply wlp; exact pv_mul rfl rfl; exact int_eq (i64_in (by omega) (by omega)))
        (apply wlp; exact pv_add rfl rfl; exact int_eq (i64_in (by omega) (by omega)))
        (repeat (apply wlp; (apply pf_field <;> exact rfl); exact fP rfl))
        (apply wls0; exact sstore1 hp 0 rfl rfl rfl rfl (sizeTy_ok rfl) rfl; rintro _ w ⟨rfl, hp⟩)
        have hp := hp.norm 0 (enC { e with id := e.id + 7 * (m : Int) } ae) rfl rfl
        have hy : Like xs ({ e with id := e.id + 7 * (m : Int) }, ae) := ⟨⟨(e, ae), hxm, rfl, rfl, rfl, rfl⟩⟩
        obtain ⟨e', he'⟩ : ∃ e' : En, e' = { e with id := e.id + 7 * (m : Int) } := ⟨_, rfl⟩
        rw [← he'] at hp hy
      case' aB =>
        have hy : Like xs (e, ae) := ⟨⟨(e, ae), hxm, rfl, rfl, rfl, rfl⟩⟩
        obtain ⟨e', he'⟩ : ∃ e' : En, e' = e := ⟨_, rfl⟩
        rw [← he'] at hp hy
      all_goals (
      (repeat (first | (with_reducible first | apply WP_region | apply wpl_nil | apply thenQ_n | apply WP_skip) | (apply wlp; ((first | apply pv_move | (apply pf_loadb; exact rfl)) <;> (first | exact rfl | exact hp.agg_blk 0 rfl rfl)); (first | exact fS rfl | exact fA6 rfl))))
      (apply wls; exact sf_slice hp rfl rfl rfl rfl rfl rfl rfl; rintro _ w ⟨nb, rfl, hp⟩)
      (apply wls; exact sf_app1 eEn ys (e', ae) hp 2 0 rfl rfl rfl rfl rfl rfl (fun _ => rfl) rfl rfl rfl hvl rfl rfl (by omega); rintro _ w ⟨s', c', rfl, hv', hp⟩)
      have hp := Hp.tail (Hp.tail hp)
      (repeat (first | (with_reducible first | apply WP_region | apply wpl_nil | apply thenQ_n | apply inBlk_n) | (apply wlp; (first | apply pv_move | apply pv_assign); (first | exact fI rfl | exact fS rfl))))
      (apply wlp; exact pv_add rfl rfl; exact int_eq (i64_in (by omega) (by omega)))
      (repeat (first | (with_reducible first | apply wpl_nil | apply thenQ_n) | (apply wlp; apply pv_assign; exact fI rfl)))
      exact ⟨(r + 1, ys ++ [(e', ae)], s', c'), put_self (put_self (Same.eq (by repeat (first | exact Same.hav | exact Same.refl | refine Same.put rfl ?_ | refine Same.havs rfl ?_))) rfl) rfl, ⟨by show r + 1 ≤ xs.length; omega, by show (ys ++ [(e', ae)]).length ≤ m * 13 + (r + 1); simp; omega, hv', snoc_all hL hy, hp⟩, by show xs.length - (r + 1) < xs.length - r; omega⟩)
    · have h2 : ¬ (r : Int) < xs.length := h2
      (repeat (first | (with_reducible first | apply WP_region | apply thenQ_n | apply inBlk_n | apply thenQ_exit | apply WP_exit) | ((with_reducible apply inBlk_same); exact rfl) | (apply wlp; apply pv_move; exact fI rfl)))
      (apply wlp; exact pv_add rfl rfl; exact int_eq (i64_in (by omega) (by omega)))
      (repeat (first | (with_reducible first | apply wpl_nil | apply thenQ_n) | (apply wlp; apply pv_assign; exact fI rfl)))
      exact ⟨(m + 1, ys, sl, cl), put_self (put_self (Same.eq (by repeat (first | exact Same.hav | exact Same.refl | refine Same.put rfl ?_ | refine Same.havs rfl ?_))) rfl) rfl, ⟨by show ((m + 1 : Nat) : Int) ≤ k.tmod 9 + 1; omega, by show ys.length ≤ (m + 1) * 13; omega, hvl, hL, hp⟩, by show (k.tmod 9 + 1 - ((m + 1 : Nat) : Int)).toNat < (k.tmod 9 + 1 - (m : Int)).toNat; omega⟩
  have h : ¬ (m : Int) ≤ k.tmod 9 := h
  have hm9 : m ≤ 9 := by omega
  have hyl2 : ys.length ≤ 117 := by omega
  (repeat (first | (with_reducible first | apply WP_seq | apply WP_region | apply thenQ_n | apply thenQ_exit | apply WP_exit) | ((with_reducible apply inBlk_same); exact rfl)))
  (apply wlp; (apply pf_loadb; exact rfl; exact rfl; exact rfl; exact fun j v hv => hp.old0 (cD j v hv)); exact fA13 rfl)
  (repeat (apply wlp; apply pv_move; exact fS rfl))
  (apply wls; exact st_call rfl ent21 rfl (c21 d a ys sl cl _ (hd9.keep hp.keeps) (ownL_At hp 0 rfl hvl (fun _ => rfl)) (fun y hy => ((hL y hy).at_ hxe).keep hp.keeps) (fun y hy => ((hL y hy).ln hO).mono (by omega)) (by omega)))
  rintro _ w ⟨ins, outs, si, ci, sx, cx, rfl, hvi, hvx, hadm, hE, hpa⟩
  have hp := hp.joinT [ownL eEn 46 6 si ci ins, ownL eT 91 2 sx cx outs] (ins.flatMap enOwn) hpa
  (repeat (first | (with_reducible first | apply WP_seq | apply WP_region | apply wpl_nil | apply thenQ_n) | (apply wlp; ((first | apply pv_move | apply pv_assign | (apply pf_loadb; exact rfl) | apply pv_extract) <;> exact rfl); (first | exact fS rfl | exact fU rfl))))
  (apply wlp; (apply pf_loadb; exact rfl; exact rfl; exact rfl; exact fun j v hv => hp.old0 (cD j v hv)); exact fA13 rfl)
  (repeat (apply wlp; apply pv_move; exact fS rfl))
  (apply wls; exact st_call rfl ent22 rfl (c22 d a ys sl cl _ (hd9.keep hp.keeps) hG.sz (ownL_At hp 2 rfl hvl (fun _ => rfl)) (fun y hy => ((hL y hy).at_ hxe).keep hp.keeps) (fun y hy => (hL y hy).sz hO) (by omega)))
  rintro _ w ⟨ins2, outs2, si2, ci2, sx2, cx2, rfl, hvi2, hvx2, hadm2, hE2, hpa⟩
  have hp := hp.join hpa
  -- ins2, outs2, ins, outs, ys, entrants
  have hee := hadm.trans hadm2.symm
  have hmm : ins.map (·.1) = ins2.map (·.1) := (Prod.mk.inj hee).1
  have hoo : outs = outs2 := (Prod.mk.inj hee).2
  subst hoo
  have hil : ins.length ≤ 117 ∧ outs.length ≤ 117 := by
    have h1 := admTo_len (d := d) (es := ys.map (·.1)) (ys.map (·.1)).length (Nat.le_refl _)
    have h2 : (ins.map (·.1), outs) = admTo d (ys.map (·.1)) (ys.map (·.1)).length := by
      rw [hadm]
      unfold adm
      rfl
    rw [← h2] at h1
    simp at h1
    omega
  have hi1 : ∀ y ∈ ins, EnAt w y.1 y.2 := fun y hy => (hE y hy).at_ hp (fun p hp => List.mem_append_right [_, _, _, _, _] (List.mem_flatMap.2 ⟨y, hy, hp⟩))
  have hi2 : ∀ y ∈ ins2, EnAt w y.1 y.2 := fun y hy => ((hL y (hE2 y hy)).at_ hxe).keep hp.keeps
  have hln : ∀ y ∈ ins, EnLn y.1 1000000000 := by
    intro y hy
    have hmem : y.1 ∈ ins2.map (·.1) := by
      rw [← hmm]
      exact List.mem_map_of_mem hy
    rw [List.mem_map] at hmem
    obtain ⟨v, hv, e1⟩ := hmem
    rw [← e1]
    exact ((hL v (hE2 v hv)).ln hO).mono (by omega)
  have s1 : SlAt w 6 eEn si ins := ownL_At hp 2 rfl hvi (fun _ => rfl)
  have s2 : SlAt w 6 eEn si2 ins2 := ownL_At hp 0 rfl hvi2 (fun _ => rfl)
  have x1 : SlAt w 2 eT sx outs := ownL_At hp 3 rfl hvx (fun _ => rfl)
  have x2 : SlAt w 2 eT sx2 outs := ownL_At hp 1 rfl hvx2 (fun _ => rfl)
  have hkw := hk9.trans hp.keeps (by simp)
  clear hp
  have hp := Hp.start (M := []) (w := w)
  (apply wlp; apply pv_move; exact fU rfl)
  (apply wlp; (apply pv_extract <;> exact rfl); exact fS rfl)
  (apply wlp; (apply pv_extract <;> exact rfl); exact fS rfl)
  (apply wlp; apply pv_assign; exact fS rfl)
  (apply wlp; apply pv_assign; exact fS rfl)
  ((repeat (with_reducible first | apply WP_seq | apply WP_region | apply wpl_nil | apply thenQ_n)); (apply wlp; apply pv_move; exact fB rfl); (apply wlp; apply pv_move; exact fB rfl))
  ((apply wlpT; exact rfl; exact rfl); (apply pv_move); (intros; exact fS rfl))
  ((apply wlpT; exact rfl; exact rfl); (apply pv_move); (intros; exact fS rfl))
  (apply wlsT; exact rfl; exact rfl; exact st_call rfl ent23 rfl (c23 ins ins2 si si2 ci ci2 _ (by omega) hmm (s1.keep0 hp.keeps) (s2.keep0 hp.keeps) (fun y hy => (hi1 y hy).keep hp.keeps) (fun y hy => (hi2 y hy).keep hp.keeps) hln); rintro _ w ⟨rfl, hk⟩; have hp := hp.call hk)
  (apply wlp; exact pv_and' rfl rfl; exact bool_eq (b := true) rfl)
  (apply wlp; apply pv_move; exact fB rfl)
  ((apply wlpT; exact rfl; exact rfl); (apply pv_move); (intros; exact fS rfl))
  ((apply wlpT; exact rfl; exact rfl); (apply pv_move); (intros; exact fS rfl))
  (apply wlsT; exact rfl; exact rfl; exact st_call rfl ent24 rfl (c24 outs sx sx2 cx cx2 _ (by omega) (x1.keep0 hp.keeps) (x2.keep0 hp.keeps)); rintro _ w ⟨rfl, hk⟩; have hp := hp.call hk)
  (apply wlp; exact pv_and' rfl rfl; exact bool_eq (b := true) rfl)
  (repeat (first | (with_reducible first | apply wpl_nil | apply thenQ_n | apply WP_ret) | (apply wlp; apply pv_assign; exact fB rfl)))
  exact ret_tmp rfl rfl ⟨_, rfl, rfl, hkw.trans hp.keeps (by simp)⟩
end Go.Proofs.Ytgephdcapajaiaa
