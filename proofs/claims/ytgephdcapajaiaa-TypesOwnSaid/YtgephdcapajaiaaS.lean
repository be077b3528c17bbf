/- Layer 14: Draw returns rules that are permitted; conditions: the numbers lie in memory. -/
import Derived.Test.YtgephdcapajaiaaR
namespace Go.Proofs.Ytgephdcapajaiaa
open Go.Eng
attribute [local irreducible] PV StepF wpl wpd WP Ret

/-- rules as Draw returns them -/
structure DrG (w : World) (d : Dr) (a : DrA) : Prop where
  at_ : DrAt w d a
  sz : DrSz d
  cap : DrCap d a
  ok : chk d = (⟨#[]⟩, 0)
  bar : ∀ x ∈ d.barred, x < 101
  tl : d.tiers.length ≤ 12
  pl : d.places.length ≤ 12
  ql : d.quotas.length ≤ 12
  bl : d.barred.length ≤ 40
theorem strm0 (s : Option Addr) (c : Nat) (l : List Int) : strm s c l 0 = [.slice s l.length c, .int .i64 0] := by simp [strm]
theorem JBar_lt {xs : List Int} (hl : xs.length ≤ 2) (h : ∀ q x, xs[q]? = some x → JBar q x) : ∀ x ∈ xs, x < 101 := J_all h fun q y hq hy => by
  simp only [JBar] at hy
  omega
theorem xw_sz (n : Int) : (⟨#[120]⟩ ++ wordB n : ByteArray).size ≤ 9223372036854775807 := by
  rw [ByteArray.size_append, wordB_size]
  decide
attribute [local irreducible] chk strB wordB

theorem c11 (l : List Int) (s : Option Addr) (c : Nat) (w0 : World) (hs : SlAt w0 1 eI s l) (hl : l.length ≤ maxLen) : Ret Try.prog 11 [.slice s l.length c] w0 (fun v w' => ∃ d a, v = drV d a ∧ Keeps [] w0 w' ∧ DrG w' d a) := by
  refine Ret.of_WP Try.func11 rfl Try.ntmps11 rfl ?_
  have hp := Hp.start (M := []) (w := w0)
  ((repeat (with_reducible first | apply WP_seq | apply WP_region)); apply wls; exact salloc13 hp (zeroTy_ok rfl); rintro _ w1 ⟨rb, rfl, hp⟩)
  have hp : Hp w0 [] w1 [blk rb 13 (frOf (drC dz az)) 30] := hp
  (repeat (first | (with_reducible first | apply WP_seq | apply WP_region | apply wpl_nil | apply thenQ_n) | (apply wlp; ((first | apply pv_move | (apply pf_build; exact rfl)) <;> exact rfl); (first | exact fS rfl | exact fA2 rfl))))
  (apply wls; exact sbox2 hp rfl; rintro _ w ⟨mb, rfl, hp⟩)
  have hp : Hp w0 [] w [(some mb, strB s c l), blk rb 13 (frOf (drC dz az)) 30] := hp.weak (i := 0) (φ := strB s c l) rfl (fun o ho => by
    unfold strB
    exact ⟨0, by rw [strm0]; exact ho⟩)
  have hmb : w0.heap.size ≤ mb := by simpa using hp.own 0 _ rfl mb rfl
  have hsb : l ≠ [] → ∀ b o, s = some ⟨b, o, none⟩ → b ≠ mb := fun h b o e => by
    have := hs.lt (fun _ => rfl) (by decide) h e
    omega
  (repeat (first | (with_reducible first | apply WP_seq | apply WP_region | apply wpl_nil | apply thenQ_n) | (apply wlp; (first | apply pv_move | apply pv_assign); exact fP rfl)))
  (apply wls; exact st_call rfl ent28 rfl (c28x (hs.keep0 hp.keeps) hsb hl (by decide) (by decide) (hp.has 0 _ rfl mb rfl)); rintro _ w ⟨x0, rfl, x0l, x0u, hk, ho⟩; have hp := hp.callE 0 rfl hk ho)
  (apply wls; exact st_call rfl ent27 rfl (c27 _ _))
  rintro _ w ⟨rfl, hk⟩
  have hp := hp.call hk
  (apply wlp; exact pv_sadd rfl rfl (by rw [wordB_size]; decide); exact fT rfl)
  (repeat (apply wlp; apply pv_move; exact fP rfl))
  (apply wls; exact st_call rfl ent28 rfl (c28x (hs.keep0 hp.keeps) hsb hl (by decide) (by decide) (hp.has 0 _ rfl mb rfl)); rintro _ w ⟨x1, rfl, x1l, x1u, hk, ho⟩; have hp := hp.callE 0 rfl hk ho)
  (apply wlp; exact pv_add rfl rfl; exact int_eq (i64_in (by omega) (by omega)))
  (repeat (apply wlp; apply pv_move; exact fP rfl))
  (apply wls; exact st_call rfl ent28 rfl (c28x (hs.keep0 hp.keeps) hsb hl (by decide) (by decide) (hp.has 0 _ rfl mb rfl)); rintro _ w ⟨x2, rfl, x2l, x2u, hk, ho⟩; have hp := hp.callE 0 rfl hk ho)
  (apply wlp; exact pv_add rfl rfl; exact int_eq (i64_in (by omega) (by omega)))
  (repeat (apply wlp; apply pv_move; exact fP rfl))
  (apply wls; exact st_call rfl ent28 rfl (c28x (hs.keep0 hp.keeps) hsb hl (by decide) (by decide) (hp.has 0 _ rfl mb rfl)); rintro _ w ⟨x3, rfl, x3l, x3u, hk, ho⟩; have hp := hp.callE 0 rfl hk ho)
  (repeat (apply wlp; ((apply pf_build; exact rfl) <;> exact rfl); exact fA13 rfl))
  (apply wls; exact salloc13 hp (zeroTy_ok rfl); rintro _ w ⟨db, rfl, hp⟩)
  (apply wls0; exact sstore13 hp 0 rfl rfl rfl rfl (sizeTy_ok rfl) rfl; rintro _ w ⟨rfl, hp⟩)
  have hp := hp.norm 0 (drC (dr0 x0 x1 x2 x3 []) az) rfl rfl
  (repeat (first | (with_reducible first | apply WP_seq | apply WP_region | apply wpl_nil | apply thenQ_n) | (apply wlp; apply pv_move; exact fP rfl)))
  (apply wls; exact st_call rfl ent28 rfl (c28x (hs.keep0 hp.keeps) hsb hl (by decide) (by decide) (hp.has 1 _ rfl mb rfl)); rintro _ w ⟨x4, rfl, x4l, x4u, hk, ho⟩; have hp := hp.callE 1 rfl hk ho)
  (repeat (first | (with_reducible first | apply WP_seq | apply WP_block | apply WP_region | apply wpl_nil | apply thenQ_n) | (apply wlp; apply pv_assign; exact fI rfl)))
  have hp := hp.nilL eI 3 1
  refine WP_loop3 [6, 32, 33, 34, 35, 36, 37, 38, 39, 40, 41, 42, 43, 44, 45, 46] (fun (xs : List Int) (sB : Option Addr) (cB : Nat) F => F.put 6 (.int .i64 xs.length))
    (fun xs sB cB w' => (xs.length : Int) ≤ x4 ∧ SVL sB cB xs ∧ (∀ q x, xs[q]? = some x → JBar q x) ∧ Hp w0 [] w' [ownL eI 3 1 sB cB xs, blk db 13 (frOf (drC (dr0 x0 x1 x2 x3 xs) { az with sB := sB, cB := cB })) 30, (some mb, strB s c l), blk rb 13 (frOf (drC dz az)) 30])
    (fun xs _ _ => (x4 - xs.length).toNat) [] none 0 (put_self (Same.eq .refl) rfl) ⟨x4l, .nil, J_nil, hp⟩ ?_
  clear hp hk ho
  rintro u xs sB cB w ⟨hle, hvB, hJB, hp⟩
  (repeat (first | (with_reducible first | apply WP_seq | apply WP_region | apply wpl_nil | apply thenQ_n) | (apply wlp; ((first | apply pv_move | apply pv_lss) <;> exact rfl); (first | exact fI rfl | exact fB rfl))))
  refine WP_cond_d rfl (fun h => ?_) (fun h => ?_)
  · (repeat (with_reducible first | apply WP_seq | apply WP_block | apply thenQ_n | apply WP_skip))
    refine WP_drawS mixed (by kernel_rfl) (fun w' => Hp w0 [] w' [blk db 13 (frOf (drC (dr0 x0 x1 x2 x3 xs) { az with sB := sB, cB := cB })) 30]) (hp.drew.pick 1 rfl) ?_
    have hp := hp.drew
    (repeat ((apply wdp; exact rfl); (intro w hp; intros; ((first | apply pv_move | apply pf_field | (apply pf_load; exact rfl)) <;> (first | exact rfl | exact hp.cell 0 rfl rfl))); (intros; (first | exact fI rfl | exact fP rfl | exact fS rfl))))
    (apply wdp; exact rfl; (intro w hp; exact pv_mul rfl rfl); exact int_eq (i64_in (by omega) (by omega)))
    (repeat ((apply wdp; exact rfl); (intro w hp; intros; apply pv_move); (intros; exact fP rfl)))
    (apply wds; exact rfl; exact st_call rfl ent28 rfl (c28x (hs.keep0 hp.keeps) hsb hl (by decide) (by decide) (hp.has 2 _ rfl mb rfl)); rintro _ w ⟨y, rfl, yl, yu, hk, ho⟩; have hp := hp.callE 2 rfl hk ho; refine ⟨hp.pick 1 rfl, ?_⟩)
    (apply wdp; exact rfl; (intro w hp; exact pv_add rfl rfl); exact int_eq (i64_in (by omega) (by omega)))
    (apply wds; exact rfl; exact sf_slice hp rfl rfl rfl rfl rfl rfl rfl; rintro _ w ⟨nb, rfl, hp⟩; refine ⟨hp.pick 2 rfl, ?_⟩)
    (apply wds; exact rfl; exact sf_app1 eI xs (5 * xs.length + y) hp 1 0 rfl rfl rfl rfl rfl rfl (fun _ => rfl) rfl rfl rfl hvB rfl rfl (by omega); rintro _ w ⟨s', c', rfl, hv', hp⟩; refine ⟨hp.pick 2 rfl, ?_⟩)
    have hp := Hp.tail hp
    (repeat ((apply wdp; exact rfl); (intro w hp; intros; (apply pf_field <;> exact rfl)); (intros; exact fP rfl)))
    (apply wds0S; exact rfl; exact rfl; exact sstore1 hp 1 rfl rfl rfl rfl (sizeTy_ok rfl) rfl; rintro _ w ⟨rfl, hp⟩)
    have hp := hp.norm 1 (drC (dr0 x0 x1 x2 x3 (xs ++ [5 * xs.length + y])) { az with sB := s', cB := c' }) rfl rfl
    refine wpd_nil ?_
    (repeat (first | (with_reducible first | apply WP_region | apply thenQ_n | apply inBlk_n) | (apply wlp; apply pv_move; exact fI rfl)))
    (apply wlp; exact pv_add rfl rfl; exact int_eq (i64_in (by omega) (by omega)))
    (repeat (first | (with_reducible first | apply wpl_nil | apply thenQ_n) | (apply wlp; apply pv_assign; exact fI rfl)))
    exact ⟨xs ++ [5 * xs.length + y], s', c', put_self (Same.eq (by repeat (first | exact Same.hav | exact Same.refl | refine Same.put rfl ?_ | refine Same.havs rfl ?_))) (int_eq (by simp)), ⟨by simp; omega, hv', J_snoc hJB (by simp only [JBar]; omega), hp⟩, by simp; omega⟩
  have hxl : xs.length ≤ 2 := by omega
  have h2b : 0 ≤ x2 ∧ x2 < 9 := ⟨x2l, x2u⟩
  have h3b : 0 ≤ x3 ∧ x3 < 9 := ⟨x3l, x3u⟩
  (repeat (first | (with_reducible first | apply WP_seq | apply WP_block | apply WP_region | apply wpl_nil | apply thenQ_n | apply thenQ_exit | apply WP_exit) | ((with_reducible apply inBlk_same); exact rfl) | (apply wlp; ((first | apply pv_assign | apply pf_field | (apply pf_load; exact rfl) | (apply pv_eql; (first | exact rfl | exact ev_sel rfl (by assumption)))) <;> (first | exact rfl | exact hp.cell 1 rfl rfl)); (first | exact fI rfl | exact fB rfl | exact fP rfl))))
  refine WP_cond_d rfl (fun hk1 => ?_) (fun hk1 => ?_)
  · have hk1 : 1 + x1 = 1 := hk1
    (repeat (first | (with_reducible first | apply WP_seq | apply WP_region) | (apply wlp; apply pv_move; exact fP rfl)))
    (apply wls; exact st_call rfl ent28 rfl (c28x (hs.keep0 hp.keeps) hsb hl (by decide) (by decide) (hp.has 2 _ rfl mb rfl)); rintro _ w ⟨x5, rfl, x5l, x5u, hk, ho⟩; have hp := hp.callE 2 rfl hk ho)
    (apply wlp; exact pv_add rfl rfl; exact int_eq (i64_in (by omega) (by omega)))
    (repeat (apply wlp; (apply pf_field <;> exact rfl); exact fP rfl))
    (apply wls0; exact sstore1 hp 1 rfl rfl rfl rfl (sizeTy_ok rfl) rfl; rintro _ w ⟨rfl, hp⟩)
    have hp := hp.norm 1 (drC (drL x0 x1 x2 x3 xs (2 + x5) 0 false []) { az with sB := sB, cB := cB }) rfl rfl
    have q1 : (drL x0 x1 x2 x3 xs (2 + x5) 0 false []).pool = 2 + x5 := rfl
    (repeat (first | (with_reducible first | apply WP_seq | apply WP_region | apply wpl_nil | apply thenQ_n) | (apply wlp; ((first | apply pv_move | apply pf_field | (apply pf_load; exact rfl) | apply pv_min) <;> (first | exact rfl | exact hp.cell 1 rfl rfl)); (first | exact fI rfl | exact fP rfl))))
    (apply wls; exact st_call rfl ent28 rfl (c28x (hs.keep0 hp.keeps) hsb hl (by omega) (by omega) (hp.has 2 _ rfl mb rfl)); rintro _ w ⟨x6, rfl, x6l, x6u, hk, ho⟩; have hp := hp.callE 2 rfl hk ho)
    (apply wlp; exact pv_add rfl rfl; exact int_eq (i64_in (by omega) (by omega)))
    (repeat (apply wlp; (apply pf_field <;> exact rfl); exact fP rfl))
    (apply wls0; exact sstore1 hp 1 rfl rfl rfl rfl (sizeTy_ok rfl) rfl; rintro _ w ⟨rfl, hp⟩)
    have hp := hp.norm 1 (drC (drL x0 x1 x2 x3 xs (2 + x5) (1 + x6) false []) { az with sB := sB, cB := cB }) rfl rfl
    (repeat (first | (with_reducible first | apply WP_seq | apply WP_region | apply wpl_nil | apply thenQ_n) | (apply wlp; apply pv_move; exact fP rfl)))
    (apply wls; exact st_call rfl ent28 rfl (c28x (hs.keep0 hp.keeps) hsb hl (by decide) (by decide) (hp.has 2 _ rfl mb rfl)); rintro _ w ⟨x7, rfl, x7l, x7u, hk, ho⟩; have hp := hp.callE 2 rfl hk ho)
    (repeat (apply wlp; ((first | apply pf_field | (apply pv_eql; (first | exact rfl | exact ev_sel rfl (by assumption)))) <;> exact rfl); (first | exact fB rfl | exact fP rfl)))
    (apply wls0; exact sstore1 hp 1 rfl rfl rfl rfl (sizeTy_ok rfl) rfl; rintro _ w ⟨rfl, hp⟩)
    have hp := hp.norm 1 (drC (drL x0 x1 x2 x3 xs (2 + x5) (1 + x6) (decide (x7 = 1)) []) { az with sB := sB, cB := cB }) rfl rfl
    have q2 : (drL x0 x1 x2 x3 xs (2 + x5) (1 + x6) (decide (x7 = 1)) []).pick = 1 + x6 := rfl
    (repeat (first | (with_reducible first | apply WP_seq | apply WP_region | apply wpl_nil | apply thenQ_n) | (apply wlp; ((first | apply pv_move | apply pf_field | (apply pf_load; exact rfl)) <;> (first | exact rfl | exact hp.cell 1 rfl rfl)); (first | exact fI rfl | exact fP rfl))))
    (apply wlp; exact pv_add rfl rfl; exact int_eq (i64_in (by omega) (by omega)))
    (repeat (apply wlp; (apply pv_min <;> exact rfl); exact fI rfl))
    (apply wls; exact st_call rfl ent28 rfl (c28x (hs.keep0 hp.keeps) hsb hl (by omega) (by omega) (hp.has 2 _ rfl mb rfl)); rintro _ w ⟨x8, rfl, x8l, x8u, hk, ho⟩; have hp := hp.callE 2 rfl hk ho)
    (apply wlp; exact pv_add rfl rfl; exact int_eq (i64_in (by omega) (by omega)))
    (repeat (first | (with_reducible first | apply WP_seq | apply WP_block | apply WP_region | apply wpl_nil | apply thenQ_n) | (apply wlp; apply pv_assign; exact fI rfl)))
    have hp := hp.nilL eT 63 2
    refine WP_loop3 [8, 73, 74, 75, 76, 77, 78, 79, 80, 81, 82, 83, 84, 85, 86, 87, 88, 89, 90] (fun (ts : List (Int × Int)) (sT : Option Addr) (cT : Nat) F => F.put 8 (.int .i64 ts.length))
      (fun ts sT cT w' => (ts.length : Int) ≤ 1 + x8 ∧ SVL sT cT ts ∧ (∀ q x, ts[q]? = some x → JTier (1 + x6) q x) ∧ Hp w0 [] w' [ownL eT 63 2 sT cT ts, ownL eI 3 1 sB cB xs, blk db 13 (frOf (drC (drL x0 x1 x2 x3 xs (2 + x5) (1 + x6) (decide (x7 = 1)) ts) { az with sB := sB, cB := cB, sT := sT, cT := cT })) 30, (some mb, strB s c l), blk rb 13 (frOf (drC dz az)) 30])
      (fun ts _ _ => (1 + x8 - ts.length).toNat) [] none 0 (put_self (Same.eq .refl) rfl) ⟨by simp; omega, .nil, J_nil, hp⟩ ?_
    clear hp hk ho
    rintro u ts sT cT w ⟨hle2, hvT, hJT, hp⟩
    have q3 : (drL x0 x1 x2 x3 xs (2 + x5) (1 + x6) (decide (x7 = 1)) ts).pick = 1 + x6 := rfl
    (repeat (first | (with_reducible first | apply WP_seq | apply WP_region | apply wpl_nil | apply thenQ_n) | (apply wlp; ((first | apply pv_move | apply pv_lss) <;> exact rfl); (first | exact fI rfl | exact fB rfl))))
    refine WP_cond_d rfl (fun h5 => ?_) (fun h5 => ?_)
    · (repeat (with_reducible first | apply WP_seq | apply WP_block | apply thenQ_n | apply WP_skip))
      refine WP_drawS mixed (by kernel_rfl) (fun w' => Hp w0 [] w' [blk db 13 (frOf (drC (drL x0 x1 x2 x3 xs (2 + x5) (1 + x6) (decide (x7 = 1)) ts) { az with sB := sB, cB := cB, sT := sT, cT := cT })) 30]) (hp.drew.pick 2 rfl) ?_
      have hp := hp.drew
      (repeat ((apply wdp; exact rfl); (intro w hp; intros; ((first | apply pv_move | apply pf_field | (apply pf_load; exact rfl)) <;> (first | exact rfl | exact hp.cell 0 rfl rfl))); (intros; (first | exact fI rfl | exact fP rfl | exact fS rfl))))
      (apply wdp; exact rfl; (intro w hp; exact pv_sub rfl rfl); exact int_eq (i64_in (by omega) (by omega)))
      (repeat ((apply wdp; exact rfl); (intro w hp; intros; apply pv_move); (intros; exact fP rfl)))
      (apply wds; exact rfl; exact st_call rfl ent28 rfl (c28x (hs.keep0 hp.keeps) hsb hl (by decide) (by decide) (hp.has 3 _ rfl mb rfl)); rintro _ w ⟨y, rfl, yl, yu, hk, ho⟩; have hp := hp.callE 3 rfl hk ho; refine ⟨hp.pick 2 rfl, ?_⟩)
      (apply wdp; exact rfl; (intro w hp; exact pv_add rfl rfl); exact int_eq (i64_in (by omega) (by omega)))
      (repeat ((apply wdp; exact rfl); (intro w hp; intros; ((apply pf_build; exact rfl) <;> exact rfl)); (intros; exact fA2 rfl)))
      (apply wds; exact rfl; exact sf_slice hp rfl rfl rfl rfl rfl rfl rfl; rintro _ w ⟨nb, rfl, hp⟩; refine ⟨hp.pick 3 rfl, ?_⟩)
      (apply wds; exact rfl; exact sf_app1 eT ts (1 + x6 - ts.length, 1 + y) hp 1 0 rfl rfl rfl rfl rfl rfl (fun _ => rfl) rfl rfl rfl hvT rfl rfl (by omega); rintro _ w ⟨s', c', rfl, hv', hp⟩; refine ⟨hp.pick 3 rfl, ?_⟩)
      have hp := Hp.tail hp
      (repeat ((apply wdp; exact rfl); (intro w hp; intros; (apply pf_field <;> exact rfl)); (intros; exact fP rfl)))
      (apply wds0S; exact rfl; exact rfl; exact sstore1 hp 2 rfl rfl rfl rfl (sizeTy_ok rfl) rfl; rintro _ w ⟨rfl, hp⟩)
      have hp := hp.norm 2 (drC (drL x0 x1 x2 x3 xs (2 + x5) (1 + x6) (decide (x7 = 1)) (ts ++ [(1 + x6 - ts.length, 1 + y)])) { az with sB := sB, cB := cB, sT := s', cT := c' }) rfl rfl
      refine wpd_nil ?_
      (repeat (first | (with_reducible first | apply WP_region | apply thenQ_n | apply inBlk_n) | (apply wlp; apply pv_move; exact fI rfl)))
      (apply wlp; exact pv_add rfl rfl; exact int_eq (i64_in (by omega) (by omega)))
      (repeat (first | (with_reducible first | apply wpl_nil | apply thenQ_n) | (apply wlp; apply pv_assign; exact fI rfl)))
      exact ⟨ts ++ [(1 + x6 - ts.length, 1 + y)], s', c', put_self (Same.eq (by repeat (first | exact Same.hav | exact Same.refl | refine Same.put rfl ?_ | refine Same.havs rfl ?_))) (int_eq (by simp)), ⟨by simp; omega, hv', J_snoc hJT ⟨rfl, by show 1 ≤ 1 + y; omega, by show 1 + y ≤ 33; omega⟩, hp⟩, by simp; omega⟩
    (repeat (first | (with_reducible first | apply WP_seq | apply WP_region | apply thenQ_n | apply inBlk_n | apply thenQ_exit | apply WP_exit) | ((with_reducible apply inBlk_same); exact rfl) | (apply wlp; ((apply pf_loadb; exact rfl) <;> (first | exact rfl | exact hp.agg_blk 2 rfl rfl)); exact fA13 rfl)))
    (apply wls0; exact sstore13 hp 4 rfl rfl rfl rfl (sizeTy_ok rfl) rfl; rintro _ w ⟨rfl, hp⟩)
    have hp := hp.norm 4 (drC (drL x0 x1 x2 x3 xs (2 + x5) (1 + x6) (decide (x7 = 1)) ts) { az with sB := sB, cB := cB, sT := sT, cT := cT }) rfl rfl
    (repeat (with_reducible first | apply wpl_nil | apply thenQ_n | apply WP_ret))
    refine ret_cell rfl rfl rfl rfl (hp.agg_blk 4 rfl rfl) ⟨_, rfl, drL x0 x1 x2 x3 xs (2 + x5) (1 + x6) (decide (x7 = 1)) ts, { az with sB := sB, cB := cB, sT := sT, cT := cT }, rfl, hp.keeps, ⟨?_, ?_, ?_, ?_, ?_, ?_, ?_, ?_, ?_⟩⟩
    · exact ⟨ownL_At hp 0 rfl hvT (fun _ => rfl), SlAt_nil, SlAt_nil, ownL_At hp 1 rfl hvB (fun _ => rfl)⟩
    · exact ⟨xw_sz _, by simp [drL], by simp [drL]⟩
    · exact ⟨hvT.cap, Nat.zero_le _, Nat.zero_le _, hvB.cap⟩
    · exact chk_drL (by omega) h2b h3b hJB hxl (by omega) (by omega) hJT (by omega) (by omega) (by omega)
    · exact JBar_lt hxl hJB
    · show ts.length ≤ 12; omega
    · show 0 ≤ 12; omega
    · show 0 ≤ 12; omega
    · show xs.length ≤ 40; omega
  have hk1 : ¬ 1 + x1 = 1 := hk1
  (repeat (first | (with_reducible first | apply WP_seq | apply WP_region | apply wpl_nil | apply thenQ_n) | (apply wlp; ((first | apply pv_assign | (apply pv_eql; (first | exact rfl | exact ev_sel rfl (by assumption)))) <;> exact rfl); exact fB rfl)))
  refine WP_cond_d rfl (fun hk2 => ?_) (fun hk2 => ?_)
  · have hk2 : 1 + x1 = 2 := hk2
    (repeat (first | (with_reducible first | apply WP_seq | apply WP_region) | (apply wlp; apply pv_move; exact fP rfl)))
    (apply wls; exact st_call rfl ent28 rfl (c28x (hs.keep0 hp.keeps) hsb hl (by decide) (by decide) (hp.has 2 _ rfl mb rfl)); rintro _ w ⟨x5, rfl, x5l, x5u, hk, ho⟩; have hp := hp.callE 2 rfl hk ho)
    (repeat (apply wlp; (apply pf_field <;> exact rfl); exact fP rfl))
    (apply wls0; exact sstore1 hp 1 rfl rfl rfl rfl (sizeTy_ok rfl) rfl; rintro _ w ⟨rfl, hp⟩)
    have hp := hp.norm 1 (drC (drB x0 x1 x2 x3 xs x5 []) { az with sB := sB, cB := cB }) rfl rfl
    (repeat (first | (with_reducible first | apply WP_seq | apply WP_region | apply wpl_nil | apply thenQ_n) | (apply wlp; apply pv_move; exact fP rfl)))
    (apply wls; exact st_call rfl ent28 rfl (c28x (hs.keep0 hp.keeps) hsb hl (by decide) (by decide) (hp.has 2 _ rfl mb rfl)); rintro _ w ⟨x8, rfl, x8l, x8u, hk, ho⟩; have hp := hp.callE 2 rfl hk ho)
    (apply wlp; exact pv_add rfl rfl; exact int_eq (i64_in (by omega) (by omega)))
    (repeat (first | (with_reducible first | apply WP_seq | apply WP_block | apply WP_region | apply wpl_nil | apply thenQ_n) | (apply wlp; apply pv_assign; exact fI rfl)))
    have hp := hp.nilL eP 65 2
    refine WP_loop3 [10, 99, 100, 101, 102, 103, 104, 105, 106, 107, 108, 109, 110, 111, 112, 113, 114] (fun (ts : List (ByteArray × Int)) (sT : Option Addr) (cT : Nat) F => F.put 10 (.int .i64 ts.length))
      (fun ts sT cT w' => (ts.length : Int) ≤ 1 + x8 ∧ SVL sT cT ts ∧ (∀ q x, ts[q]? = some x → JPlace q x) ∧ Hp w0 [] w' [ownL eP 65 2 sT cT ts, ownL eI 3 1 sB cB xs, blk db 13 (frOf (drC (drB x0 x1 x2 x3 xs x5 ts) { az with sB := sB, cB := cB, sP := sT, cP := cT })) 30, (some mb, strB s c l), blk rb 13 (frOf (drC dz az)) 30])
      (fun ts _ _ => (1 + x8 - ts.length).toNat) [] none 0 (put_self (Same.eq .refl) rfl) ⟨by simp; omega, .nil, J_nil, hp⟩ ?_
    clear hp hk ho
    rintro u ts sT cT w ⟨hle2, hvT, hJT, hp⟩
    (repeat (first | (with_reducible first | apply WP_seq | apply WP_region | apply wpl_nil | apply thenQ_n) | (apply wlp; ((first | apply pv_move | apply pv_lss) <;> exact rfl); (first | exact fI rfl | exact fB rfl))))
    refine WP_cond_d rfl (fun h5 => ?_) (fun h5 => ?_)
    · (repeat (with_reducible first | apply WP_seq | apply WP_block | apply thenQ_n | apply WP_skip))
      refine WP_drawS mixed (by kernel_rfl) (fun w' => Hp w0 [] w' [blk db 13 (frOf (drC (drB x0 x1 x2 x3 xs x5 ts) { az with sB := sB, cB := cB, sP := sT, cP := cT })) 30]) (hp.drew.pick 2 rfl) ?_
      have hp := hp.drew
      (repeat ((apply wdp; exact rfl); (intro w hp; intros; ((first | apply pv_move | apply pf_field | (apply pf_load; exact rfl)) <;> (first | exact rfl | exact hp.cell 0 rfl rfl))); (intros; (first | exact fI rfl | exact fP rfl | exact fS rfl))))
      (apply wds; exact rfl; exact st_call rfl ent27 rfl (c27 _ _))
      rintro _ w ⟨rfl, hk⟩
      have hp := hp.call hk
      refine ⟨hp.pick 2 rfl, ?_⟩
      (repeat ((apply wdp; exact rfl); (intro w hp; intros; apply pv_move); (intros; exact fP rfl)))
      (apply wds; exact rfl; exact st_call rfl ent28 rfl (c28x (hs.keep0 hp.keeps) hsb hl (by decide) (by decide) (hp.has 3 _ rfl mb rfl)); rintro _ w ⟨y, rfl, yl, yu, hk, ho⟩; have hp := hp.callE 3 rfl hk ho; refine ⟨hp.pick 2 rfl, ?_⟩)
      (apply wdp; exact rfl; (intro w hp; exact pv_add rfl rfl); exact int_eq (i64_in (by omega) (by omega)))
      (repeat ((apply wdp; exact rfl); (intro w hp; intros; ((apply pf_build; exact rfl) <;> exact rfl)); (intros; exact fA2 rfl)))
      (apply wds; exact rfl; exact sf_slice hp rfl rfl rfl rfl rfl rfl rfl; rintro _ w ⟨nb, rfl, hp⟩; refine ⟨hp.pick 3 rfl, ?_⟩)
      (apply wds; exact rfl; exact sf_app1 eP ts (wordB ts.length, 1 + y) hp 1 0 rfl rfl rfl rfl rfl rfl (fun _ => rfl) rfl rfl rfl hvT rfl rfl (by omega); rintro _ w ⟨s', c', rfl, hv', hp⟩; refine ⟨hp.pick 3 rfl, ?_⟩)
      have hp := Hp.tail hp
      (repeat ((apply wdp; exact rfl); (intro w hp; intros; (apply pf_field <;> exact rfl)); (intros; exact fP rfl)))
      (apply wds0S; exact rfl; exact rfl; exact sstore1 hp 2 rfl rfl rfl rfl (sizeTy_ok rfl) rfl; rintro _ w ⟨rfl, hp⟩)
      have hp := hp.norm 2 (drC (drB x0 x1 x2 x3 xs x5 (ts ++ [(wordB ts.length, 1 + y)])) { az with sB := sB, cB := cB, sP := s', cP := c' }) rfl rfl
      refine wpd_nil ?_
      (repeat (first | (with_reducible first | apply WP_region | apply thenQ_n | apply inBlk_n) | (apply wlp; apply pv_move; exact fI rfl)))
      (apply wlp; exact pv_add rfl rfl; exact int_eq (i64_in (by omega) (by omega)))
      (repeat (first | (with_reducible first | apply wpl_nil | apply thenQ_n) | (apply wlp; apply pv_assign; exact fI rfl)))
      exact ⟨ts ++ [(wordB ts.length, 1 + y)], s', c', put_self (Same.eq (by repeat (first | exact Same.hav | exact Same.refl | refine Same.put rfl ?_ | refine Same.havs rfl ?_))) (int_eq (by simp)), ⟨by simp; omega, hv', J_snoc hJT ⟨rfl, by show 1 ≤ 1 + y; omega, by show 1 + y ≤ 3; omega⟩, hp⟩, by simp; omega⟩
    (repeat (first | (with_reducible first | apply WP_seq | apply WP_region | apply thenQ_n | apply inBlk_n | apply thenQ_exit | apply WP_exit) | ((with_reducible apply inBlk_same); exact rfl) | (apply wlp; ((apply pf_loadb; exact rfl) <;> (first | exact rfl | exact hp.agg_blk 2 rfl rfl)); exact fA13 rfl)))
    (apply wls0; exact sstore13 hp 4 rfl rfl rfl rfl (sizeTy_ok rfl) rfl; rintro _ w ⟨rfl, hp⟩)
    have hp := hp.norm 4 (drC (drB x0 x1 x2 x3 xs x5 ts) { az with sB := sB, cB := cB, sP := sT, cP := cT }) rfl rfl
    (repeat (with_reducible first | apply wpl_nil | apply thenQ_n | apply WP_ret))
    refine ret_cell rfl rfl rfl rfl (hp.agg_blk 4 rfl rfl) ⟨_, rfl, drB x0 x1 x2 x3 xs x5 ts, { az with sB := sB, cB := cB, sP := sT, cP := cT }, rfl, hp.keeps, ⟨?_, ?_, ?_, ?_, ?_, ?_, ?_, ?_, ?_⟩⟩
    · exact ⟨SlAt_nil, ownL_At hp 0 rfl hvT (fun _ => rfl), SlAt_nil, ownL_At hp 1 rfl hvB (fun _ => rfl)⟩
    · refine ⟨xw_sz _, J_all hJT fun q y _ hy => ?_, by simp [drB]⟩
      rw [hy.1, wordB_size]
      decide
    · exact ⟨Nat.zero_le _, hvT.cap, Nat.zero_le _, hvB.cap⟩
    · exact chk_drB (by omega) h2b h3b hJB hxl (by omega) hJT (by omega) (by omega)
    · exact JBar_lt hxl hJB
    · show 0 ≤ 12; omega
    · show ts.length ≤ 12; omega
    · show 0 ≤ 12; omega
    · show xs.length ≤ 40; omega
  have hk2 : ¬ 1 + x1 = 2 := hk2
  (repeat (first | (with_reducible first | apply WP_seq | apply WP_region | apply wpl_nil | apply thenQ_n) | (apply wlp; ((first | apply pv_assign | (apply pv_eql; (first | exact rfl | exact ev_sel rfl (by assumption)))) <;> exact rfl); exact fB rfl)))
  refine WP_cond_d rfl (fun hk3 => ?_) (fun hk3 => ?_)
  · have hk3 : 1 + x1 = 3 := hk3
    (repeat (first | (with_reducible first | apply WP_seq | apply WP_region) | (apply wlp; apply pv_move; exact fP rfl)))
    (apply wls; exact st_call rfl ent28 rfl (c28x (hs.keep0 hp.keeps) hsb hl (by decide) (by decide) (hp.has 2 _ rfl mb rfl)); rintro _ w ⟨x5, rfl, x5l, x5u, hk, ho⟩; have hp := hp.callE 2 rfl hk ho)
    (apply wlp; exact pv_add rfl rfl; exact int_eq (i64_in (by omega) (by omega)))
    (repeat (apply wlp; (apply pf_field <;> exact rfl); exact fP rfl))
    (apply wls0; exact sstore1 hp 1 rfl rfl rfl rfl (sizeTy_ok rfl) rfl; rintro _ w ⟨rfl, hp⟩)
    have hp := hp.norm 1 (drC (drP x0 x1 x2 x3 xs (1 + x5) []) { az with sB := sB, cB := cB }) rfl rfl
    (repeat (first | (with_reducible first | apply WP_seq | apply WP_region | apply wpl_nil | apply thenQ_n) | (apply wlp; apply pv_move; exact fP rfl)))
    (apply wls; exact st_call rfl ent28 rfl (c28x (hs.keep0 hp.keeps) hsb hl (by decide) (by decide) (hp.has 2 _ rfl mb rfl)); rintro _ w ⟨x8, rfl, x8l, x8u, hk, ho⟩; have hp := hp.callE 2 rfl hk ho)
    (repeat (first | (with_reducible first | apply WP_seq | apply WP_block | apply WP_region | apply wpl_nil | apply thenQ_n) | (apply wlp; apply pv_assign; exact fI rfl)))
    have hp := hp.nilL eQ 67 3
    refine WP_loop3 [12, 13, 123, 124, 125, 126, 127, 128, 129, 130, 131, 132, 133, 134, 135, 136, 137, 138, 139, 140, 141, 142, 143, 144, 145, 146, 147, 148, 149, 150] (fun (ts : List (ByteArray × Int × Int)) (sT : Option Addr) (cT : Nat) F => F.put 12 (.int .i64 ts.length))
      (fun ts sT cT w' => (ts.length : Int) ≤ x8 ∧ SVL sT cT ts ∧ (∀ q x, ts[q]? = some x → JQuota (1 + x5) q x) ∧ Hp w0 [] w' [ownL eQ 67 3 sT cT ts, ownL eI 3 1 sB cB xs, blk db 13 (frOf (drC (drP x0 x1 x2 x3 xs (1 + x5) ts) { az with sB := sB, cB := cB, sQ := sT, cQ := cT })) 30, (some mb, strB s c l), blk rb 13 (frOf (drC dz az)) 30])
      (fun ts _ _ => (x8 - ts.length).toNat) [] none 0 (put_self (Same.eq .refl) rfl) ⟨by simp; omega, .nil, J_nil, hp⟩ ?_
    clear hp hk ho
    rintro u ts sT cT w ⟨hle2, hvT, hJT, hp⟩
    have q3 : (drP x0 x1 x2 x3 xs (1 + x5) ts).size = 1 + x5 := rfl
    (repeat (first | (with_reducible first | apply WP_seq | apply WP_region | apply wpl_nil | apply thenQ_n) | (apply wlp; ((first | apply pv_move | apply pv_lss) <;> exact rfl); (first | exact fI rfl | exact fB rfl))))
    refine WP_cond_d rfl (fun h5 => ?_) (fun h5 => ?_)
    · (repeat (with_reducible first | apply WP_seq | apply WP_block | apply thenQ_n | apply WP_skip))
      refine WP_drawE false [0, 1, 2, 3, 4, 5, 6, 7, 8, 9] mixed (by kernel_rfl) rfl (fun w' => Hp w0 [] w' [blk db 13 (frOf (drC (drP x0 x1 x2 x3 xs (1 + x5) ts) { az with sB := sB, cB := cB, sQ := sT, cQ := cT })) 30]) (hp.drew.pick 2 rfl) ?_
      have hp := hp.drew
      (repeat ((apply wep; exact rfl; exact rfl); (intro w hp; intros; apply pv_move); (intros; exact fI rfl)))
      refine wee1 8 rfl (by kernel_rfl) rfl rfl ?eA ?eB
      case' eA =>
        (apply wbs; exact rfl; exact st_call rfl ent27 rfl (c27 _ _); rintro _ w ⟨rfl, hk⟩; have hp := hp.call hk; refine ⟨hp.pick 2 rfl, ?_⟩)
        (repeat ((apply wep; exact rfl; exact rfl); (intro w hp; intros; ((first | apply pv_move | apply pf_field | (apply pf_load; exact rfl)) <;> (first | exact rfl | exact hp.cell 0 rfl rfl))); (intros; (first | exact fI rfl | exact fP rfl))))
        (apply wep; exact rfl; exact rfl; (intro w hp; exact pv_add rfl rfl); exact int_eq (i64_in (by omega) (by omega)))
        refine wee1 8 rfl (by kernel_rfl) rfl rfl ?eC ?eD
        case' eC =>
          (apply wbs; exact rfl; exact st_call rfl ent28 rfl (c28x (hs.keep0 hp.keeps) hsb hl (by omega) (by omega) (hp.has 3 _ rfl mb rfl)); rintro _ w ⟨hi, rfl, hil, hiu, hk, ho⟩; have hp := hp.callE 3 rfl hk ho; refine ⟨hp.pick 2 rfl, ?_⟩)
          (repeat ((apply wep; exact rfl; exact rfl); (intro w hp; intros; ((apply pf_build; exact rfl) <;> exact rfl)); (intros; exact fA3 rfl)))
          refine wee0 rfl (by kernel_rfl) ?_ rfl
          (apply wbs; exact rfl; exact salloc3 hp (zeroTy_ok rfl); rintro _ w ⟨qb, rfl, hp⟩; refine ⟨hp.pick 3 rfl, ?_⟩)
        case' eD =>
          (apply wbs; exact rfl; exact salloc3 hp (zeroTy_ok rfl); rintro _ w ⟨qb, rfl, hp⟩; refine ⟨hp.pick 3 rfl, ?_⟩)
          refine wee0 rfl (by kernel_rfl) ?_ rfl
          (apply wbs; exact rfl; exact st_call rfl ent28 rfl (c28x (hs.keep0 hp.keeps) hsb hl (by omega) (by omega) (hp.has 4 _ rfl mb rfl)); rintro _ w ⟨hi, rfl, hil, hiu, hk, ho⟩; have hp := hp.callE 4 rfl hk ho; refine ⟨hp.pick 3 rfl, ?_⟩)
          (repeat ((apply wep; exact rfl; exact rfl); (intro w hp; intros; ((apply pf_build; exact rfl) <;> exact rfl)); (intros; exact fA3 rfl)))
      case' eB =>
        (apply wbs; exact rfl; exact salloc3 hp (zeroTy_ok rfl); rintro _ w ⟨qb, rfl, hp⟩; refine ⟨hp.pick 3 rfl, ?_⟩)
        refine wee0 rfl (by kernel_rfl) ?_ rfl
        (apply wbs; exact rfl; exact st_call rfl ent27 rfl (c27 _ _); rintro _ w ⟨rfl, hk⟩; have hp := hp.call hk; refine ⟨hp.pick 3 rfl, ?_⟩)
        (repeat ((apply wep; exact rfl; exact rfl); (intro w hp; intros; ((first | apply pv_move | apply pf_field | (apply pf_load; exact rfl)) <;> (first | exact rfl | exact hp.cell 0 rfl rfl))); (intros; (first | exact fI rfl | exact fP rfl))))
        (apply wep; exact rfl; exact rfl; (intro w hp; exact pv_add rfl rfl); exact int_eq (i64_in (by omega) (by omega)))
        refine wee0 rfl (by kernel_rfl) ?_ rfl
        (apply wbs; exact rfl; exact st_call rfl ent28 rfl (c28x (hs.keep0 hp.keeps) hsb hl (by omega) (by omega) (hp.has 4 _ rfl mb rfl)); rintro _ w ⟨hi, rfl, hil, hiu, hk, ho⟩; have hp := hp.callE 4 rfl hk ho; refine ⟨hp.pick 3 rfl, ?_⟩)
        (repeat ((apply wep; exact rfl; exact rfl); (intro w hp; intros; ((apply pf_build; exact rfl) <;> exact rfl)); (intros; exact fA3 rfl)))
      all_goals (
        refine wee0 rfl (by kernel_rfl) ?_ rfl
        (apply wbs0S; exact rfl; exact rfl; exact sstore3 hp 0 rfl rfl rfl rfl (sizeTy_ok rfl) rfl; rintro _ w ⟨rfl, hp⟩)
        have hp := hp.norm 0 [.string (wordB ts.length), .int .i64 0, .int .i64 hi] rfl rfl
        refine wpe_nil ?_
        (repeat (first | (with_reducible first | apply WP_seq | apply WP_region | apply thenQ_n) | (apply wlp; apply pv_move; exact fP rfl)))
        (apply wls; exact st_call rfl ent28 rfl (c28x (hs.keep0 hp.keeps) hsb hl (by decide) (by decide) (hp.has 4 _ rfl mb rfl)); rintro _ w ⟨y, rfl, yl, yu, hk, ho⟩; have hp := hp.callE 4 rfl hk ho)
        (repeat (first | (with_reducible first | apply wpl_nil | apply thenQ_n) | (apply wlp; ((apply pv_eql; (first | exact rfl | exact ev_sel rfl (by assumption))) <;> exact rfl); exact fB rfl)))
        refine WP_cond_d rfl (fun h6 => ?_) (fun h6 => ?_)
        case' refine_1 =>
          (repeat (first | with_reducible apply WP_region | (apply wlp; ((first | apply pv_move | apply pf_field | (apply pf_load; exact rfl)) <;> (first | exact rfl | exact hp.cell 0 rfl rfl)); (first | exact fI rfl | exact fP rfl))))
          (apply wlp; exact pv_add rfl rfl; exact int_eq (i64_in (by omega) (by omega)))
          (apply wls; exact st_call rfl ent28 rfl (c28x (hs.keep0 hp.keeps) hsb hl (by omega) (by omega) (hp.has 4 _ rfl mb rfl)); rintro _ w ⟨lo, rfl, lol, lou, hk, ho⟩; have hp := hp.callE 4 rfl hk ho)
          (repeat (apply wlp; (apply pf_field <;> exact rfl); exact fP rfl))
          (apply wls0; exact sstore1 hp 0 rfl rfl rfl rfl (sizeTy_ok rfl) rfl; rintro _ w ⟨rfl, hp⟩)
          have hp := hp.norm 0 [.string (wordB ts.length), .int .i64 lo, .int .i64 hi] rfl rfl
          have hlo : 0 ≤ lo ∧ lo ≤ hi := by omega
        case' refine_2 =>
          obtain ⟨lo, hlo0⟩ : ∃ lo : Int, lo = 0 := ⟨0, rfl⟩
          have hp := hp.norm 0 [.string (wordB ts.length), .int .i64 lo, .int .i64 hi] rfl (by rw [hlo0]; rfl)
          have hlo : 0 ≤ lo ∧ lo ≤ hi := by omega
        all_goals (
          (repeat (first | (with_reducible first | apply WP_region | apply wpl_nil | apply thenQ_n | apply WP_skip) | (apply wlp; ((first | apply pf_field | (apply pf_load; exact rfl) | (apply pf_loadb; exact rfl)) <;> (first | exact rfl | exact hp.cell 3 rfl rfl | exact hp.agg_blk 0 rfl rfl)); (first | exact fP rfl | exact fS rfl | exact fA3 rfl))))
          (apply wls; exact sf_slice hp rfl rfl rfl rfl rfl rfl rfl; rintro _ w ⟨nb, rfl, hp⟩)
          (apply wls; exact sf_app1 eQ ts (wordB ts.length, lo, hi) hp 2 0 rfl rfl rfl rfl rfl rfl (fun _ => rfl) rfl rfl rfl hvT rfl rfl (by omega); rintro _ w ⟨s', c', rfl, hv', hp⟩)
          have hp := Hp.tail (Hp.tail hp)
          (repeat (apply wlp; (apply pf_field <;> exact rfl); exact fP rfl))
          (apply wls0; exact sstore1 hp 2 rfl rfl rfl rfl (sizeTy_ok rfl) rfl; rintro _ w ⟨rfl, hp⟩)
          have hp := hp.norm 2 (drC (drP x0 x1 x2 x3 xs (1 + x5) (ts ++ [(wordB ts.length, lo, hi)])) { az with sB := sB, cB := cB, sQ := s', cQ := c' }) rfl rfl
          (repeat (first | (with_reducible first | apply WP_region | apply wpl_nil | apply thenQ_n | apply inBlk_n) | (apply wlp; apply pv_move; exact fI rfl)))
          (apply wlp; exact pv_add rfl rfl; exact int_eq (i64_in (by omega) (by omega)))
          (repeat (first | (with_reducible first | apply wpl_nil | apply thenQ_n) | (apply wlp; apply pv_assign; exact fI rfl)))
          exact ⟨ts ++ [(wordB ts.length, lo, hi)], s', c', put_self (Same.eq (by repeat (first | exact Same.hav | exact Same.refl | refine Same.put rfl ?_ | refine Same.havs rfl ?_))) (int_eq (by simp)), ⟨by simp; omega, hv', J_snoc hJT ⟨rfl, hlo.1, hlo.2, by show hi ≤ 1 + x5; omega⟩, hp⟩, by simp; omega⟩))
    (repeat (first | (with_reducible first | apply WP_seq | apply WP_region | apply thenQ_n | apply inBlk_n | apply thenQ_exit | apply WP_exit) | ((with_reducible apply inBlk_same); exact rfl) | (apply wlp; ((apply pf_loadb; exact rfl) <;> (first | exact rfl | exact hp.agg_blk 2 rfl rfl)); exact fA13 rfl)))
    (apply wls0; exact sstore13 hp 4 rfl rfl rfl rfl (sizeTy_ok rfl) rfl; rintro _ w ⟨rfl, hp⟩)
    have hp := hp.norm 4 (drC (drP x0 x1 x2 x3 xs (1 + x5) ts) { az with sB := sB, cB := cB, sQ := sT, cQ := cT }) rfl rfl
    (repeat (with_reducible first | apply wpl_nil | apply thenQ_n | apply WP_ret))
    refine ret_cell rfl rfl rfl rfl (hp.agg_blk 4 rfl rfl) ⟨_, rfl, drP x0 x1 x2 x3 xs (1 + x5) ts, { az with sB := sB, cB := cB, sQ := sT, cQ := cT }, rfl, hp.keeps, ⟨?_, ?_, ?_, ?_, ?_, ?_, ?_, ?_, ?_⟩⟩
    · exact ⟨SlAt_nil, SlAt_nil, ownL_At hp 0 rfl hvT (fun _ => rfl), ownL_At hp 1 rfl hvB (fun _ => rfl)⟩
    · refine ⟨xw_sz _, by simp [drP], J_all hJT fun q y _ hy => ?_⟩
      rw [hy.1, wordB_size]
      decide
    · exact ⟨Nat.zero_le _, Nat.zero_le _, hvT.cap, hvB.cap⟩
    · exact chk_drP (by omega) h2b h3b hJB hxl (by omega) hJT (by omega)
    · exact JBar_lt hxl hJB
    · show 0 ≤ 12; omega
    · show 0 ≤ 12; omega
    · show ts.length ≤ 12; omega
    · show xs.length ≤ 40; omega
  exfalso
  have hk3 : ¬ 1 + x1 = 3 := hk3
  omega
end Go.Proofs.Ytgephdcapajaiaa
