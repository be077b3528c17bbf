/- sanity of the laws of layer 18 returns true; no conditions. -/
import Derived.Test.YteklkjnhefnimaaDoorEj
namespace Go.Proofs.YteklkjnhefnimaaDoor
open Go.Eng Go.Dig

theorem lt1000 {n : Nat} (h : n < 2 ^ 32) : Sm n := ⟨32, by decide, h⟩
/-- the numbers of the three chances of sanity -/
theorem san_num {k : Nat} (hk : k < 3) : ∃ cn cd e : Nat, chA 5 2 k / Nat.gcd (chA 5 2 k) (chZ 5 2) = cn ∧ chZ 5 2 / Nat.gcd (chA 5 2 k) (chZ 5 2) = cd ∧ RF cn cd ∧ cn * 10 / Nat.gcd (cn * 10) (cd * 1) = e ∧ cd * 1 / Nat.gcd (cn * 10) (cd * 1) = 1 ∧ ([3, 6, 1] : List Int)[k]? = some (e : Int) ∧ e < 10 := by
  match k, hk with
  | 0, _ => exact ⟨3, 10, 3, by decide, by decide, ⟨lt1000 (by decide), lt1000 (by decide), by decide, by decide⟩, by decide, by decide, rfl, by decide⟩
  | 1, _ => exact ⟨3, 5, 6, by decide, by decide, ⟨lt1000 (by decide), lt1000 (by decide), by decide, by decide⟩, by decide, by decide, rfl, by decide⟩
  | 2, _ => exact ⟨1, 10, 1, by decide, by decide, ⟨lt1000 (by decide), lt1000 (by decide), by decide, by decide⟩, by decide, by decide, rfl, by decide⟩
def sanV (cn cd e k nb : Nat) : Nat → Value
  | 0 => .bool true
  | 1 => .bool false
  | 2 => .bool false
  | 3 => RV cn cd
  | 4 => RV 10 1
  | 5 => RV e 1
  | 6 => .slice (some ⟨nb, 0, none⟩) 3 3
  | 7 => .int .i64 (k : Int)
  | 8 => .pointer (some ⟨nb, 0 + k * 1, none⟩)
  | 9 => .int .i64 (e : Int)
  | 10 => RV e 1
  | 11 => .int .i64 0
  | 12 => .bool false
  | _ => .bool false
def sanL (pg mb db tb : Nat) (s : Option Addr) (c : Nat) : List Ent := [ownL eI 3 1 (some ⟨pg, 0, none⟩) 4 [50, 15, 15, 0], blk mb 4 (frOf [.int .i64 2, .int .i64 1, .int .i64 1, .int .i64 0]) 3, blk db 13 (frOf (dw ⟨#[]⟩ 1 0 0 5 2 (some ⟨tb, 0, none⟩) 2 2)) 50, blk tb 4 (frOf [.int .i64 2, .int .i64 50, .int .i64 1, .int .i64 30]) 57, ownL eI 3 1 s c [2, 3]]
theorem RF_one {e : Nat} (h : e < 1000) : RF e 1 := ⟨lt1000 (Nat.lt_trans h (by decide)), lt1000 (by decide), by decide, Nat.gcd_one_right e⟩

attribute [local irreducible] PV StepF wpl wpd WP Ret
attribute [local irreducible] Fit RB

theorem c11 (w : World) : Ret Tryd.prog 11 [] w (fun v w' => v = .bool true ∧ Keeps [] w w') := by
  refine Ret.of_WP Tryd.func11 rfl Tryd.ntmps11 rfl ?_
  have hp := Hp.start (M := []) (w := w)
  (repeat (first | (with_reducible first | apply WP_seq | apply WP_region | apply wpl_nil | apply thenQ_n) | (apply wlp; apply pv_assign; exact fB rfl)))
  (apply wls; exact sf_slice hp rfl rfl rfl rfl rfl rfl rfl; rintro _ w1 ⟨b1, rfl, hp⟩)
  have hs1 : SlAt w1 1 eI (some ⟨b1, 0, none⟩) [1, 3] := blk_SlAt [1, 3] hp 0 rfl (fun _ => rfl)
  (apply wls; exact st_call rfl ent22 rfl (c22 5 [1, 3] _ 2 _ hs1 (by decide)); rintro _ w2 ⟨rfl, hk⟩; have hp := (hp.call hk).tail)
  clear hs1
  (repeat (first | (with_reducible first | apply WP_seq | apply WP_region | apply wpl_nil | apply thenQ_n) | (apply wlp; ((first | apply pv_move | apply pv_assign | apply pv_extract) <;> exact rfl); (first | exact fB rfl | exact fT rfl | exact fU rfl))))
  (apply wls; exact st_call rfl ent13 rfl (c13 4 _ (by decide)))
  rintro _ w3 ⟨rfl, hk⟩
  have hp := hp.call hk
  (apply wls; exact st_call rfl ent19 rfl (c19 5 2 4 _ (Fit.small (by decide))); rintro _ w4 ⟨s, c, rfl, hvs, hps⟩; have hp := hp.join hps)
  have hp : Hp w [] w4 [ownL eI 3 1 s c [2, 3]] := hp
  have hvs : SVL s c ([2, 3] : List Int) := hvs
  clear hps
  (repeat (first | (with_reducible first | apply WP_seq | apply WP_region | apply wpl_nil | apply thenQ_n) | (apply wlp; ((first | apply pv_move | apply pv_assign | apply pv_extract | (apply pf_build; exact rfl)) <;> exact rfl); (first | exact fB rfl | exact fS rfl | exact fA2 rfl | exact fU rfl))))
  (apply wls; exact sf_slice hp rfl rfl rfl rfl rfl rfl rfl; rintro _ w5 ⟨tb, rfl, hp⟩)
  (repeat (apply wlp; ((apply pf_build; exact rfl) <;> exact rfl); exact fA13 rfl))
  (apply wls; exact salloc13 hp (zeroTy_ok rfl); rintro _ w6 ⟨db, rfl, hp⟩)
  (apply wls0; exact sstore13 hp 0 rfl rfl rfl rfl (sizeTy_ok rfl) rfl; rintro _ w7 ⟨rfl, hp⟩)
  have hp := hp.norm 0 (dw ⟨#[]⟩ 1 0 0 5 2 (some ⟨tb, 0, none⟩) 2 2) rfl rfl
  have hp : Hp w [] w7 [blk db 13 (frOf (dw ⟨#[]⟩ 1 0 0 5 2 (some ⟨tb, 0, none⟩) 2 2)) 50, blk tb 4 (frOf [.int .i64 2, .int .i64 50, .int .i64 1, .int .i64 30]) 57, ownL eI 3 1 s c [2, 3]] := hp
  (repeat (first | (with_reducible first | apply WP_seq | apply WP_region | apply wpl_nil | apply thenQ_n) | (apply wlp; ((apply pf_loadb; exact rfl) <;> (first | exact rfl | exact hp.agg_blk 0 rfl rfl)); exact fA13 rfl)))
  (apply wls; exact sf_slice hp rfl rfl rfl rfl rfl rfl rfl; rintro _ w8 ⟨mb, rfl, hp⟩)
  have hp : Hp w [] w8 [blk mb 4 (frOf [.int .i64 2, .int .i64 1, .int .i64 1, .int .i64 0]) 3, blk db 13 (frOf (dw ⟨#[]⟩ 1 0 0 5 2 (some ⟨tb, 0, none⟩) 2 2)) 50, blk tb 4 (frOf [.int .i64 2, .int .i64 50, .int .i64 1, .int .i64 30]) 57, ownL eI 3 1 s c [2, 3]] := hp
  have hsm : SlAt w8 1 eI (some ⟨mb, 0, none⟩) [2, 1, 1, 0] := blk_SlAt [2, 1, 1, 0] hp 0 rfl (fun _ => rfl)
  have hst : SlAt w8 2 eT (some ⟨tb, 0, none⟩) [(2, 50), (1, 30)] := blk_SlAt [(2, 50), (1, 30)] hp 2 rfl (fun _ => rfl)
  (apply wls; exact st_call rfl ent28 rfl (c28t ⟨#[]⟩ 1 0 0 5 2 101 _ _ 2 4 [(2, 50), (1, 30)] [2, 1, 1, 0] _ hst hsm (by decide) (by decide) (by decide) (by decide)); rintro _ w9 ⟨pg, rfl, hvp, hpp⟩; have hp := hp.join hpp)
  have hst := hst.keep0 hpp.keeps
  clear hpp hsm
  have hp : Hp w [] w9 (sanL pg mb db tb s c) := hp
  have hvp : SVL (some ⟨pg, 0, none⟩) 4 ([50, 15, 15, 0] : List Int) := hvp
  clear hst
  (repeat (first | (with_reducible first | apply WP_seq | apply WP_block | apply WP_region | apply wpl_nil | apply thenQ_n) | (apply wlp; ((first | apply pv_move | apply pv_assign | apply pv_extract) <;> exact rfl); (first | exact fI rfl | exact fB rfl | exact fS rfl | exact fU rfl))))
  refine WP_loopS [0, 9, 10, 11, 34, 35, 36, 37, 38, 39, 40, 41, 42, 43, 44, 45, 46, 47, 48, 49, 50, 51, 52, 53, 54, 55, 56, 57] (fun (k : Nat) F => F.put 9 (.int .i64 (k : Int)))
    (fun k w' => k ≤ 3 ∧ Hp w [] w' (sanL pg mb db tb s c)) (fun k => 3 - k) 0 (put_self (Same.eq .refl) rfl) ⟨by decide, hp⟩ ?_
  clear hp
  rintro u k w10 ⟨hk3, hp⟩
  (repeat (first | (with_reducible first | apply WP_seq | apply WP_region | apply wpl_nil | apply thenQ_n) | (apply wlp; ((first | apply pv_move | apply pv_lss) <;> exact rfl); (first | exact fI rfl | exact fB rfl))))
  refine WP_cond_d rfl (fun h => ?_) (fun h => ?_)
  · have hk3 : k < 3 := by omega
    obtain ⟨cn, cd, e, h1, h2, hrf, h3, h4, h5, he⟩ := san_num hk3
    have hst : SlAt w10 2 eT (some ⟨tb, 0, none⟩) [(2, 50), (1, 30)] := blk_SlAt [(2, 50), (1, 30)] hp 3 rfl (fun _ => rfl)
    have h30 := c30t ⟨#[]⟩ 1 0 0 5 2 (k : Int) _ 2 [(2, 50), (1, 30)] w10 hst (by decide) (by decide) (by omega)
    rw [h1, h2] at h30
    (repeat (first | (with_reducible first | apply WP_seq | apply WP_block | apply WP_region | apply thenQ_n | apply WP_skip) | (apply wlp; ((first | apply pv_move | (apply pf_loadb; exact rfl)) <;> (first | exact rfl | exact hp.agg_blk 2 rfl rfl)); (first | exact fI rfl | exact fA13 rfl))))
    (apply wls; exact st_call rfl ent30 rfl h30; rintro _ w11 ⟨rfl, hk⟩; have hp := hp.call hk)
    (repeat (apply wlp; ((first | apply pv_move | apply pv_extract) <;> exact rfl); (first | exact fB rfl | exact fA3 rfl | exact fU rfl)))
    (apply wls; exact salloc3 hp (zeroTy_ok rfl); rintro _ w12 ⟨cb, rfl, hp⟩)
    (apply wls0; exact sstore3 hp 0 rfl rfl rfl rfl (sizeTy_ok rfl) rfl; rintro _ w13 ⟨rfl, hp⟩)
    have hp := hp.norm 0 [.bool false, .string (ofN cn), .string (ofN cd)] rfl rfl
    have hp : Hp w [] w13 (blk cb 3 (frOf [.bool false, .string (ofN cn), .string (ofN cd)]) 62 :: sanL pg mb db tb s c) := hp
    clear hst h30
    (repeat (first | (with_reducible first | apply WP_seq | apply wpl_nil | apply thenQ_n) | (apply wlp; apply pv_assign; exact fB rfl)))
    refine WP_drawI mixed (by kernel_rfl) (fun D F w' => ∃ nb, Dn 44 14 (sanV cn cd e k nb) _ D F ∧ (D 8 = true → D 6 = true) ∧ Hp w [] w' (blk cb 3 (frOf [.bool false, .string (ofN cn), .string (ofN cd)]) 62 :: sanL pg mb db tb s c) ∧ (D 6 = true → Hp w [] w' (blk nb 3 (frOf [.int .i64 3, .int .i64 6, .int .i64 1]) 3 :: blk cb 3 (frOf [.bool false, .string (ofN cn), .string (ofN cd)]) 62 :: sanL pg mb db tb s c))) ⟨0, Dn.start, by simp, hp.drew, by simp⟩ ?_ ?_
    · rintro i D F w14 hi hDi hA ⟨nb, hD, h86, hp0, hp1⟩
      have keepD : ∀ i, i ≠ 6 → i ≠ 8 → ((fun j => D j || Nat.beq j i) 8 = true → (fun j => D j || Nat.beq j i) 6 = true) := by
        intro i h6 h8 h
        have e8 : Nat.beq 8 i = false := nbeq_false (fun e => h8 e.symm)
        simp only [e8, Bool.or_false] at h
        simp [h86 h]
      have same6 : ∀ i, i ≠ 6 → (fun j => D j || Nat.beq j i) 6 = true → D 6 = true := by
        intro i h6 h
        have e6 : Nat.beq 6 i = false := nbeq_false (fun e => h6 e.symm)
        simpa only [e6, Bool.or_false] using h
      have nxt : ∀ i w', i < 14 → i ≠ 6 → i ≠ 8 → Keeps [] w14 w' → ∃ nb', Dn 44 14 (sanV cn cd e k nb') _ (fun j => D j || Nat.beq j i) (F.put (44 + i) (sanV cn cd e k nb i)) ∧ ((fun j => D j || Nat.beq j i) 8 = true → (fun j => D j || Nat.beq j i) 6 = true) ∧ Hp w [] w' (blk cb 3 (frOf [.bool false, .string (ofN cn), .string (ofN cd)]) 62 :: sanL pg mb db tb s c) ∧ ((fun j => D j || Nat.beq j i) 6 = true → Hp w [] w' (blk nb' 3 (frOf [.int .i64 3, .int .i64 6, .int .i64 1]) 3 :: blk cb 3 (frOf [.bool false, .string (ofN cn), .string (ofN cd)]) 62 :: sanL pg mb db tb s c)) :=
        fun i w' h1 h2 h3 hk => ⟨nb, hD.put h1, keepD i h2 h3, hp0.call hk, fun h => (hp1 (same6 i h2 h)).call hk⟩
      have hf10 : Fit 10 := Fit.small (by decide)
      match i, hi with
      | 0, _ => exact effNp pv_move (hD.old 11 rfl rfl) (nxt 0 w14 (by decide) (by decide) (by decide) .refl)
      | 1, _ =>
        have a0 : D 0 = true := (Bool.and_eq_true _ _ ▸ (show (D 0 && true) = true from hA)).1
        exact effNp (pv_not (hD.slot 0 a0 rfl rfl)) rfl (nxt 1 w14 (by decide) (by decide) (by decide) .refl)
      | 2, _ =>
        have a0 : D 1 = true := (Bool.and_eq_true _ _ ▸ (show (D 1 && true) = true from hA)).1
        exact effNp pv_move (hD.slot 1 a0 rfl rfl) (nxt 2 w14 (by decide) (by decide) (by decide) .refl)
      | 3, _ =>
        have a2 : D 2 = true := (Bool.and_eq_true _ _ ▸ (show (D 2 && true) = true from hA)).1
        exact effTp rfl (hD.slot 2 a2 rfl rfl) (pf_loadb rfl rfl (hD.old 10 rfl rfl) (hp0.agg_blk 0 rfl rfl)) rfl (nxt 3 w14 (by decide) (by decide) (by decide) .refl)
      | 4, _ =>
        have hA : (D 2 && (D 2 && true)) = true := hA
        simp only [Bool.and_eq_true] at hA
        refine effT rfl (hD.slot 2 hA.1 rfl rfl) (st_call rfl ent32 rfl (c32 10 _ (by decide) (by decide))) ?_
        rintro _ w' ⟨rfl, hk⟩
        exact nxt 4 w' (by decide) (by decide) (by decide) hk
      | 5, _ =>
        have hA : (D 3 && (D 4 && (D 4 && (D 2 && true)))) = true := hA
        simp only [Bool.and_eq_true] at hA
        have h31 := c31 cn cd 10 1 w14 hrf (RF_one (by decide))
        rw [h3, h4] at h31
        refine effT rfl (hD.slot 2 hA.2.2.2.1 rfl rfl) (st_call2 rfl ent31 (hD.slot 3 hA.1 rfl rfl) (hD.slot 4 hA.2.1 rfl rfl) h31) ?_
        rintro _ w' ⟨rfl, hk⟩
        exact nxt 5 w' (by decide) (by decide) (by decide) hk
      | 6, _ =>
        have a2 : D 2 = true := (Bool.and_eq_true _ _ ▸ (show (D 2 && true) = true from hA)).1
        refine effT rfl (hD.slot 2 a2 rfl rfl) (sf_slice hp0 rfl rfl rfl rfl rfl rfl rfl) ?_
        rintro _ w' ⟨nb', rfl, hp'⟩
        have h8 : D 8 = false := by
          cases h : D 8
          · rfl
          · rw [h86 h] at hDi; cases hDi
        refine ⟨nb', ?_, ?_, hp'.tail, fun _ => hp'⟩
        · have hD' : Dn 44 14 (sanV cn cd e k nb') _ D F := ⟨fun j hj hj2 => by
            have := hD.at_ j hj hj2
            rw [this]
            match j, hj with
            | 6, _ => rw [hDi] at hj2; cases hj2
            | 8, _ => rw [h8] at hj2; cases hj2
            | 0, _ => rfl
            | 1, _ => rfl
            | 2, _ => rfl
            | 3, _ => rfl
            | 4, _ => rfl
            | 5, _ => rfl
            | 7, _ => rfl
            | 9, _ => rfl
            | 10, _ => rfl
            | 11, _ => rfl
            | 12, _ => rfl
            | 13, _ => rfl, hD.out⟩
          exact hD'.put (i := 6) (by decide)
        · intro _
          simp
      | 7, _ =>
        have a2 : D 2 = true := (Bool.and_eq_true _ _ ▸ (show (D 2 && true) = true from hA)).1
        exact effTp rfl (hD.slot 2 a2 rfl rfl) pv_move (hD.old 9 rfl rfl) (nxt 7 w14 (by decide) (by decide) (by decide) .refl)
      | 8, _ =>
        have hA : (D 6 && (D 7 && (D 2 && true))) = true := hA
        simp only [Bool.and_eq_true] at hA
        refine effTp rfl (hD.slot 2 hA.2.2.1 rfl rfl) (pf_index rfl (hD.slot 6 hA.1 rfl rfl) (hD.slot 7 hA.2.1 rfl rfl) rfl hk3) rfl ?_
        exact ⟨nb, hD.put (i := 8) (by decide), fun _ => by simp [hA.1], hp0, fun _ => hp1 hA.1⟩
      | 9, _ =>
        have hA : (D 8 && (D 2 && true)) = true := hA
        simp only [Bool.and_eq_true] at hA
        have hs3 : SlAt w14 1 eI (some ⟨nb, 0, none⟩) [3, 6, 1] := blk_SlAt [3, 6, 1] (hp1 (h86 hA.1)) 0 rfl (fun _ => rfl)
        obtain ⟨b0, o0, e0, hc0⟩ := hs3 k _ h5
        cases e0
        exact effTp rfl (hD.slot 2 hA.2.1 rfl rfl) (pf_load rfl (hD.slot 8 hA.1 rfl rfl) (hc0 0 _ rfl)) rfl (nxt 9 w14 (by decide) (by decide) (by decide) .refl)
      | 10, _ =>
        have hA : (D 9 && (D 5 && (D 2 && true))) = true := hA
        simp only [Bool.and_eq_true] at hA
        refine effT rfl (hD.slot 2 hA.2.2.1 rfl rfl) (st_call1 rfl ent32 (hD.slot 9 hA.1 rfl rfl) (c32 (e : Int) _ (by omega) (by omega))) ?_
        rintro _ w' ⟨rfl, hk⟩
        exact nxt 10 w' (by decide) (by decide) (by decide) hk
      | 11, _ =>
        have hA : (D 5 && (D 10 && (D 10 && (D 2 && true)))) = true := hA
        simp only [Bool.and_eq_true] at hA
        have h35 := c35 e 1 e 1 w14 (RF_one (by omega)) (RF_one (by omega))
        rw [if_neg (by omega), if_pos rfl] at h35
        refine effT rfl (hD.slot 2 hA.2.2.2.1 rfl rfl) (st_call2 rfl ent35 (hD.slot 5 hA.1 rfl rfl) (hD.slot 10 hA.2.1 rfl rfl) h35) ?_
        rintro _ w' ⟨rfl, hk⟩
        exact nxt 11 w' (by decide) (by decide) (by decide) hk
      | 12, _ =>
        have hA : (D 11 && (D 2 && true)) = true := hA
        simp only [Bool.and_eq_true] at hA
        exact effTp rfl (hD.slot 2 hA.2.1 rfl rfl) (pv_neq (hD.slot 11 hA.1 rfl rfl) rfl) rfl (nxt 12 w14 (by decide) (by decide) (by decide) .refl)
      | 13, _ =>
        have hA : (D 2 && (D 12 && true)) = true := hA
        simp only [Bool.and_eq_true] at hA
        exact effNp (pv_orF (hD.slot 2 hA.1 rfl rfl) (hD.slot 12 hA.2.1 rfl rfl)) rfl (nxt 13 w14 (by decide) (by decide) (by decide) .refl)
    · rintro D F w14 hall ⟨nb, hD, h86, hp0, hp1⟩
      have h57 := hD.at_ 13 (by decide) (hall 13 (by decide))
      have hF : F = (Fr.hav [44, 45, 46, 47, 48, 49, 50, 51, 52, 53, 54, 55, 56, 57] F _).put 57 (.bool false) := put_self (Same.eq hD.same) h57
      rw [hF]
      have hp := hp0.tail
      (repeat with_reducible apply thenQ_n)
      refine WP_cond_f rfl ?_
      (repeat (first | (with_reducible first | apply WP_region | apply thenQ_n | apply inBlk_n | apply WP_skip) | (apply wlp; apply pv_move; exact fI rfl)))
      (apply wlp; exact pv_add rfl rfl; exact int_eq (i64_in (by omega) (by omega)))
      (repeat (first | (with_reducible first | apply wpl_nil | apply thenQ_n) | (apply wlp; apply pv_assign; exact fI rfl)))
      exact ⟨k + 1, put_self (Same.eq (by repeat (first | exact Same.hav | exact Same.refl | refine Same.put rfl ?_ | refine Same.havs rfl ?_))) rfl, ⟨by omega, hp⟩, by omega⟩
  · (repeat (first | (with_reducible first | apply WP_seq | apply WP_region | apply thenQ_n | apply thenQ_exit | apply WP_exit) | ((with_reducible apply inBlk_same); exact rfl)))
    (apply wls; exact st_call rfl ent12 rfl (c12 5 2 _ (by decide)))
    rintro _ w11 ⟨rfl, hk⟩
    have hp := hp.call hk
    (apply wls; exact st_call rfl ent13 rfl (c13 10 _ (by decide)))
    rintro _ w12 ⟨rfl, hk⟩
    have hp := hp.call hk
    (apply wlp; exact pv_seql rfl rfl; exact bool_eq (b := true) (ofN_eq (chZ 5 2) 10))
    (repeat (first | (apply wlp; (intros; apply pv_move); (intros; exact fB rfl)) | ((apply wlpT; exact rfl; exact rfl); (apply pv_move); (intros; exact fB rfl)) | (apply wlpF; exact rfl; exact rfl; exact rfl) | (apply wlpU; exact rfl; exact rfl)))
    (apply wlsT; exact rfl; exact rfl; exact st_call rfl ent12 rfl (c12 5 6 _ (by decide)); rintro _ w13 ⟨rfl, hk⟩; have hp := hp.call hk)
    (apply wlsT; exact rfl; exact rfl; exact st_call rfl ent13 rfl (c13 0 _ (by decide)); rintro _ w14 ⟨rfl, hk⟩; have hp := hp.call hk)
    (apply wlpT; exact rfl; exact rfl; exact pv_seql rfl rfl; exact bool_eq (b := true) (ofN_eq (chZ 5 6) 0))
    (repeat (first | (apply wlp; (intros; (first | apply pv_move | exact pv_andT rfl rfl)); (intros; exact fB rfl)) | ((apply wlpT; exact rfl; exact rfl); ((first | apply pv_move | exact pv_andT rfl rfl)); (intros; exact fB rfl)) | (apply wlpF; exact rfl; exact rfl; exact rfl) | (apply wlpU; exact rfl; exact rfl)))
    (apply wlsT; exact rfl; exact rfl; exact st_call rfl ent15 rfl (c15 5 _ (by decide)); rintro _ w15 ⟨rfl, hk⟩; have hp := hp.call hk)
    (apply wlsT; exact rfl; exact rfl; exact st_call rfl ent13 rfl (c13 120 _ (by decide)); rintro _ w16 ⟨rfl, hk⟩; have hp := hp.call hk)
    (apply wlpT; exact rfl; exact rfl; exact pv_seql rfl rfl; exact bool_eq (b := true) (ofN_eq (fact 5) 120))
    (repeat (first | (with_reducible first | apply WP_seq | apply WP_region | apply wpl_nil | apply thenQ_n) | (apply wlp; (intros; (first | apply pv_move | apply pv_assign | exact pv_andT rfl rfl)); (intros; (first | exact fB rfl | exact fT rfl))) | ((apply wlpT; exact rfl; exact rfl); ((first | apply pv_move | apply pv_assign | exact pv_andT rfl rfl)); (intros; (first | exact fB rfl | exact fT rfl))) | (apply wlpF; exact rfl; exact rfl; exact rfl) | (apply wlpU; exact rfl; exact rfl)))
    (apply wlsT; exact rfl; exact rfl; exact st_call rfl ent13 rfl (c13 1 _ (by decide)); rintro _ w17 ⟨rfl, hk⟩; have hp := hp.call hk)
    (apply wlpT; exact rfl; exact rfl; exact pv_seql rfl rfl; exact bool_eq (b := true) (ofN_eq (if setB 5 [1, 3] = true then rkN 5 [1, 3] 2 else 0) 1))
    (repeat (first | (apply wlp; (intros; (first | apply pv_move | exact pv_andT rfl rfl)); (intros; (first | exact fB rfl | exact fS rfl))) | ((apply wlpT; exact rfl; exact rfl); ((first | apply pv_move | exact pv_andT rfl rfl)); (intros; (first | exact fB rfl | exact fS rfl))) | (apply wlpF; exact rfl; exact rfl; exact rfl) | (apply wlpU; exact rfl; exact rfl)))
    (apply wlsT; exact rfl; exact rfl; exact sf_slice hp rfl rfl rfl rfl rfl rfl rfl; rintro _ w18 ⟨b2, rfl, hp⟩)
    have hsa : SlAt w18 1 eI s [2, 3] := ownL_At hp 5 rfl hvs (fun _ => rfl)
    have hsb : SlAt w18 1 eI (some ⟨b2, 0, none⟩) [2, 3] := blk_SlAt [2, 3] hp 0 rfl (fun _ => rfl)
    (apply wlsT; exact rfl; exact rfl; exact st_call rfl ent21 rfl (c21 [2, 3] [2, 3] s _ c 2 _ hsa hsb (by decide) (by decide)); rintro _ w19 ⟨rfl, hk⟩; have hp := (hp.call hk).tail)
    clear hsa hsb
    rw [decide_eq_true (rfl : ([2, 3] : List Int) = [2, 3])]
    (repeat (first | (apply wlp; (intros; (first | apply pv_move | exact pv_andT rfl rfl)); (intros; exact fB rfl)) | ((apply wlpT; exact rfl; exact rfl); ((first | apply pv_move | exact pv_andT rfl rfl)); (intros; exact fB rfl)) | (apply wlpF; exact rfl; exact rfl; exact rfl) | (apply wlpU; exact rfl; exact rfl)))
    (apply wlsT; exact rfl; exact rfl; exact sf_slice hp rfl rfl rfl rfl rfl rfl rfl; rintro _ w20 ⟨b3, rfl, hp⟩)
    (apply wlsT; exact rfl; exact rfl; exact sf_slice hp rfl rfl rfl rfl rfl rfl rfl; rintro _ w21 ⟨b4, rfl, hp⟩)
    have hsa : SlAt w21 1 eI (some ⟨b3, 0, none⟩) [1, 2, 2, 9] := blk_SlAt [1, 2, 2, 9] hp 1 rfl (fun _ => rfl)
    have hsb : SlAt w21 1 eI (some ⟨b4, 0, none⟩) [9, 2] := blk_SlAt [9, 2] hp 0 rfl (fun _ => rfl)
    (apply wlsT; exact rfl; exact rfl; exact st_call rfl ent25 rfl (c25 [1, 2, 2, 9] [9, 2] _ _ 4 2 _ hsa hsb (by decide) (by decide)); rintro _ w22 ⟨rfl, hk⟩; have hp := (hp.call hk).tail.tail)
    clear hsa hsb
    (apply wlpT; exact rfl; exact rfl; exact pv_eql rfl rfl; exact bool_eq (b := true) (by decide))
    (repeat (first | (apply wlp; (intros; (first | apply pv_move | exact pv_andT rfl rfl)); (intros; (first | exact fB rfl | exact fS rfl))) | ((apply wlpT; exact rfl; exact rfl); ((first | apply pv_move | exact pv_andT rfl rfl)); (intros; (first | exact fB rfl | exact fS rfl))) | (apply wlpF; exact rfl; exact rfl; exact rfl) | (apply wlpU; exact rfl; exact rfl)))
    (apply wlsT; exact rfl; exact rfl; exact sf_slice hp rfl rfl rfl rfl rfl rfl rfl; rintro _ w23 ⟨b5, rfl, hp⟩)
    have hsa : SlAt w23 1 eI (some ⟨pg, 0, none⟩) [50, 15, 15, 0] := ownL_At hp 1 rfl hvp (fun _ => rfl)
    have hsb : SlAt w23 1 eI (some ⟨b5, 0, none⟩) [50, 15, 15, 0] := blk_SlAt [50, 15, 15, 0] hp 0 rfl (fun _ => rfl)
    (apply wlsT; exact rfl; exact rfl; exact st_call rfl ent21 rfl (c21 [50, 15, 15, 0] [50, 15, 15, 0] _ _ 4 4 _ hsa hsb (by decide) (by decide)); rintro _ w24 ⟨rfl, hk⟩; have hp := (hp.call hk).tail)
    clear hsa hsb
    rw [decide_eq_true (rfl : ([50, 15, 15, 0] : List Int) = [50, 15, 15, 0])]
    (repeat (first | (with_reducible first | apply wpl_nil | apply thenQ_n | apply WP_ret) | (apply wlp; (intros; ((first | apply pv_move | apply pv_assign | exact pv_andT rfl rfl | (apply pv_eql; (first | exact rfl | exact ev_sel rfl (by assumption)))) <;> exact rfl)); (intros; (first | exact fI rfl | exact fB rfl))) | ((apply wlpT; exact rfl; exact rfl); (((first | apply pv_move | apply pv_assign | exact pv_andT rfl rfl | (apply pv_eql; (first | exact rfl | exact ev_sel rfl (by assumption)))) <;> exact rfl)); (intros; (first | exact fI rfl | exact fB rfl))) | (apply wlpF; exact rfl; exact rfl; exact rfl) | (apply wlpU; exact rfl; exact rfl)))
    exact ret_tmp rfl rfl ⟨_, rfl, rfl, hp.keeps⟩
end Go.Proofs.YteklkjnhefnimaaDoor
