/- odds: Unrank; conditions: the rank is short. -/
import Derived.Test.YteklkjnhefnimaaDoorEc
namespace Go.Proofs.YteklkjnhefnimaaDoor
open Go.Eng Go.Dig

/-- plain: the set with a rank among those of m elements of the last P numbers of a pool -/
def un (pool : Nat) : Nat → Nat → Nat → List Int
  | 0, _, _ => []
  | _ + 1, 0, _ => []
  | P + 1, m + 1, r => if r < ch P m then ((pool - P : Nat) : Int) :: un pool P m r else un pool P (m + 1) (r - ch P m)
theorem un_zero (pool P r : Nat) : un pool P 0 r = [] := by cases P <;> rfl
def unB (pool pick : Int) (n : Nat) : Bool := decide (0 ≤ pool) && decide (pool ≤ 60) && decide (n < chZ pool pick)
def unZ (pool pick : Int) (n : Nat) : List Int := if unB pool pick n = true then un pool.toNat pool.toNat pick.toNat n else []
theorem un_len (pool : Nat) : ∀ (P m r : Nat), r < ch P m → (un pool P m r).length = m
  | P, 0, r, _ => by rw [un_zero]; rfl
  | 0, m + 1, r, h => by simp [ch] at h
  | P + 1, m + 1, r, h => by
    rw [un]
    split
    · rename_i h2
      rw [List.length_cons, un_len pool P m r h2]
    · rename_i h2
      exact un_len pool P (m + 1) _ (by rw [ch] at h; omega)

attribute [local irreducible] PV StepF wpl wpd WP Ret
attribute [local irreducible] Fit RB

theorem c48 {w0 w : World} {M : List Nat} (pool pick P m r : Nat) (l : List Int) (bp bk bs bl : Nat) (s : Option Addr) (c : Nat)
    (hp : Hp w0 M w [blk bl 1 (frOf [.string (ofN r)]) 23, blk bs 1 (frOf [.slice s l.length c]) 28, blk bk 1 (frOf [.int .i64 (pick : Int)]) 3, blk bp 1 (frOf [.int .i64 (pool : Int)]) 3, ownL eI 3 1 s c l])
    (hv : SVL s c l) (hP : P < pool) (hpool : pool ≤ 60) (hl : l.length + (m + 1) = pick) (hpk : pick ≤ 60) (hr : Fit r) :
    Ret Tryd.prog 48 [.int .i64 ((pool - P : Nat) : Int), .pointer (some ⟨bp, 0, none⟩), .pointer (some ⟨bk, 0, none⟩), .pointer (some ⟨bs, 0, none⟩), .pointer (some ⟨bl, 0, none⟩)] w
      (fun _ w' => (r < ch P m → ∃ s' c', SVL s' c' (l ++ [((pool - P : Nat) : Int)]) ∧ Hp w0 M w' [blk bl 1 (frOf [.string (ofN r)]) 23, blk bs 1 (frOf [.slice s' (l ++ [((pool - P : Nat) : Int)]).length c']) 28, blk bk 1 (frOf [.int .i64 (pick : Int)]) 3, blk bp 1 (frOf [.int .i64 (pool : Int)]) 3, ownL eI 3 1 s' c' (l ++ [((pool - P : Nat) : Int)])]) ∧
        (¬ r < ch P m → Hp w0 M w' [blk bl 1 (frOf [.string (ofN (r - ch P m))]) 23, blk bs 1 (frOf [.slice s l.length c]) 28, blk bk 1 (frOf [.int .i64 (pick : Int)]) 3, blk bp 1 (frOf [.int .i64 (pool : Int)]) 3, ownL eI 3 1 s c l])) := by
  have hch : chZ (P : Int) (m : Int) = ch P m := chZ_nat (by omega)
  have hfc : Fit (ch P m) := ch_fit (by omega)
  refine Ret.of_WP Tryd.func48 rfl Tryd.ntmps48 rfl ?_
  (repeat (first | (with_reducible first | apply WP_seq | apply WP_region) | (apply wlp; ((first | apply pv_move | (apply pf_load; exact rfl)) <;> (first | exact rfl | exact hp.cell 3 rfl rfl)); exact fI rfl)))
  (apply wlp; exact pv_sub rfl rfl; exact int_eq (b := (P : Int)) (by rw [i64_in (by omega) (by omega)]; omega))
  (repeat (apply wlp; ((first | (apply pf_load; exact rfl) | (apply pf_len; exact rfl)) <;> (first | exact rfl | exact hp.cell 1 rfl rfl | exact hp.cell 2 rfl rfl)); (first | exact fI rfl | exact fS rfl)))
  (apply wlp; (exact pv_sub rfl rfl); exact int_eq (b := ((m + 1 : Nat) : Int)) (by rw [i64_in (by omega) (by omega)]; omega))
  (apply wlp; (exact pv_sub rfl rfl); exact int_eq (b := ((m : Nat) : Int)) (by rw [i64_in (by omega) (by omega)]; omega))
  (apply wls; exact st_call rfl ent12 rfl (c12 (P : Int) (m : Int) _ (by omega)))
  rintro _ w1 ⟨rfl, hk⟩
  have hp := hp.call hk
  rw [hch]
  (repeat (first | (with_reducible first | apply WP_seq | apply WP_region | apply wpl_nil | apply thenQ_n) | (apply wlp; ((first | apply pv_move | apply pv_assign | (apply pf_load; exact rfl)) <;> (first | exact rfl | exact hp.cell 0 rfl rfl)); exact fT rfl)))
  (apply wls; exact st_call rfl ent49 rfl (c49 r (ch P m) _ hr hfc))
  rintro _ w2 ⟨rfl, hk⟩
  have hp := hp.call hk
  (repeat (first | (with_reducible first | apply WP_seq | apply WP_region | apply wpl_nil | apply thenQ_n) | (apply wlp; ((first | apply pv_move | apply pv_assign | apply pv_extract) <;> exact rfl); (first | exact fB rfl | exact fT rfl | exact fU rfl))))
  refine WP_cond_d rfl (fun h => ?_) (fun h => ?_)
  · (repeat (first | (with_reducible first | apply WP_region | apply wpl_nil) | (apply wlp; apply pv_move; exact fT rfl) | (apply wls0; exact sstore1 hp 0 rfl rfl rfl rfl (sizeTy_ok rfl) rfl; rintro _ w ⟨rfl, hp⟩)))
    refine ret_none rfl ⟨_, rfl, fun h2 => absurd h2 (by omega), fun _ => ?_⟩
    exact hp
  · (repeat (first | with_reducible apply WP_region | (apply wlp; ((first | apply pv_move | (apply pf_load; exact rfl)) <;> (first | exact rfl | exact hp.cell 1 rfl rfl)); (first | exact fI rfl | exact fS rfl))))
    (apply wls; exact sf_slice hp rfl rfl rfl rfl rfl rfl rfl; rintro _ w3 ⟨nb, rfl, hp⟩)
    (apply wls; exact sf_app1 eI l ((pool - P : Nat) : Int) hp 5 0 rfl rfl rfl rfl rfl rfl (fun _ => rfl) rfl rfl rfl hv rfl rfl (by omega); rintro _ w4 ⟨s', c', rfl, hv', hp⟩)
    have hp := hp.tail
    (repeat (first | with_reducible apply wpl_nil | (apply wls0; exact sstore1 hp 1 rfl rfl rfl rfl (sizeTy_ok rfl) rfl; rintro _ w ⟨rfl, hp⟩)))
    refine ret_none rfl ⟨_, rfl, fun _ => ⟨s', c', hv', ?_⟩, fun h2 => absurd h2 (by omega)⟩
    exact hp

theorem c19 (pool pick : Int) (n : Nat) (w : World) (hn : Fit n) :
    Ret Tryd.prog 19 [.int .i64 pool, .int .i64 pick, .string (ofN n)] w (fun v w' => ∃ s c, v = .tuple #[.slice s (unZ pool pick n).length c, .bool (unB pool pick n)] ∧ SVL s c (unZ pool pick n) ∧ Hp w [] w' [ownL eI 3 1 s c (unZ pool pick n)]) := by
  have hno : unB pool pick n = false → unZ pool pick n = [] := fun h => by unfold unZ; rw [h]; rfl
  refine Ret.of_WP Tryd.func19 rfl Tryd.ntmps19 rfl ?_
  have hp := (Hp.start (M := []) (w := w)).nilL eI 3 1
  (repeat (with_reducible first | apply WP_seq | apply WP_region))
  (apply wls; exact sbox1 hp rfl rfl; rintro _ w1 ⟨bp, rfl, hp⟩)
  (apply wls; exact sbox1 hp rfl rfl; rintro _ w2 ⟨bk, rfl, hp⟩)
  have hp : Hp w [] w2 [blk bk 1 (frOf [.int .i64 pick]) 3, blk bp 1 (frOf [.int .i64 pool]) 3, ownL eI 3 1 none 0 []] := hp
  skip
  (apply wlp; apply pv_assign; exact fS rfl)
  (apply wlp; apply pv_assign; exact fB rfl)
  (repeat (with_reducible first | apply WP_seq | apply WP_region | apply wpl_nil | apply thenQ_n))
  (apply wlp; ((apply pf_load; exact rfl) <;> (first | exact rfl | exact hp.cell 1 rfl rfl)); exact fI rfl)
  by_cases h0 : pool < 0
  · have hB : unB pool pick n = false := by unfold unB; rw [decide_eq_false (show ¬ 0 ≤ pool by omega)]; rfl
    rw [hB, hno hB]
    (apply wlp; (exact pv_lss rfl rfl); exact bool_eq (b := true) (decide_eq_true (by omega)))
    (repeat (first | (with_reducible first | apply wpl_nil | apply thenQ_n) | (apply wlp; (intros; (first | apply pv_move | exact pv_orT rfl)); (intros; exact fB rfl)) | (apply wlpF; exact rfl; exact rfl; exact rfl) | (apply wlpU; exact rfl; exact rfl)))
    refine WP_cond_t rfl ?_
    (repeat (first | (with_reducible first | apply WP_seq | apply WP_region | apply wpl_nil | apply thenQ_n | apply thenQ_ret | apply WP_ret) | (apply wlp; apply pv_assign; (first | exact fB rfl | exact fS rfl))))
    exact ret_tmp2 rfl rfl rfl ⟨_, rfl, none, 0, rfl, SVL.nil, hp.picks [2] _ rfl rfl⟩
  by_cases h60 : 60 < pool
  · have hB : unB pool pick n = false := by unfold unB; rw [decide_eq_false (show ¬ pool ≤ 60 by omega)]; simp
    rw [hB, hno hB]
    (apply wlp; (exact pv_lss rfl rfl); exact bool_eq (b := false) (decide_eq_false (by omega)))
    (apply wlp; apply pv_move; exact fB rfl)
    ((apply wlpT; exact rfl; exact rfl); (((apply pf_load; exact rfl) <;> (first | exact rfl | exact hp.cell 1 rfl rfl))); (intros; exact fI rfl))
    (apply wlpT; exact rfl; exact rfl; (exact pv_gtr rfl rfl); exact bool_eq (b := true) (decide_eq_true (by omega)))
    (repeat (first | (with_reducible first | apply wpl_nil | apply thenQ_n) | (apply wlp; (intros; (first | apply pv_move | exact pv_orT rfl | exact pv_orF rfl rfl)); (intros; exact fB rfl)) | (apply wlpF; exact rfl; exact rfl; exact rfl) | (apply wlpU; exact rfl; exact rfl)))
    refine WP_cond_t rfl ?_
    (repeat (first | (with_reducible first | apply WP_seq | apply WP_region | apply wpl_nil | apply thenQ_n | apply thenQ_ret | apply WP_ret) | (apply wlp; apply pv_assign; (first | exact fB rfl | exact fS rfl))))
    exact ret_tmp2 rfl rfl rfl ⟨_, rfl, none, 0, rfl, SVL.nil, hp.picks [2] _ rfl rfl⟩
  have hfc : Fit (chZ pool pick) := Fit.of (k := 61) (Nat.lt_of_le_of_lt (chZ_le (by omega)) (by decide)) (by decide)
  have hBc : unB pool pick n = decide (n < chZ pool pick) := by
    unfold unB
    rw [decide_eq_true (show 0 ≤ pool by omega), decide_eq_true (show pool ≤ 60 by omega)]
    rfl
  (apply wlp; (exact pv_lss rfl rfl); exact bool_eq (b := false) (decide_eq_false (by omega)))
  (apply wlp; apply pv_move; exact fB rfl)
  ((apply wlpT; exact rfl; exact rfl); (((apply pf_load; exact rfl) <;> (first | exact rfl | exact hp.cell 1 rfl rfl))); (intros; exact fI rfl))
  (apply wlpT; exact rfl; exact rfl; (exact pv_gtr rfl rfl); exact bool_eq (b := false) (decide_eq_false (by omega)))
  (repeat (first | (apply wlp; (intros; ((first | apply pv_move | (apply pf_load; exact rfl) | exact pv_orF rfl rfl) <;> (first | exact rfl | exact hp.cell 0 rfl rfl | exact hp.cell 1 rfl rfl))); (intros; (first | exact fI rfl | exact fB rfl | exact fT rfl))) | ((apply wlpT; exact rfl; exact rfl); (((first | apply pv_move | (apply pf_load; exact rfl) | exact pv_orF rfl rfl) <;> (first | exact rfl | exact hp.cell 0 rfl rfl | exact hp.cell 1 rfl rfl))); (intros; (first | exact fI rfl | exact fB rfl | exact fT rfl))) | (apply wlpF; exact rfl; exact rfl; exact rfl) | (apply wlpU; exact rfl; exact rfl)))
  (apply wlsT; exact rfl; exact rfl; exact st_call rfl ent12 rfl (c12 pool pick _ (by omega)); rintro _ w3 ⟨rfl, hk⟩; have hp := hp.call hk)
  (apply wlsT; exact rfl; exact rfl; exact st_call rfl ent47 rfl (c47 n (chZ pool pick) _ hn hfc); rintro _ w4 ⟨rfl, hk⟩; have hp := hp.call hk)
  by_cases hlt : n < chZ pool pick
  · rw [if_pos hlt]
    (repeat (first | (with_reducible first | apply wpl_nil | apply thenQ_n) | (apply wlp; (intros; ((first | exact pv_orF rfl rfl | apply pv_geq) <;> exact rfl)); (intros; exact fB rfl)) | ((apply wlpT; exact rfl; exact rfl); (((first | exact pv_orF rfl rfl | apply pv_geq) <;> exact rfl)); (intros; exact fB rfl)) | (apply wlpF; exact rfl; exact rfl; exact rfl) | (apply wlpU; exact rfl; exact rfl)))
    refine WP_cond_f rfl ?_
    have hB : unB pool pick n = true := by rw [hBc]; exact decide_eq_true hlt
    have hZ : unZ pool pick n = un pool.toNat pool.toNat pick.toNat n := by unfold unZ; rw [if_pos hB]
    rw [hB, hZ]
    have hpk : 0 ≤ pick ∧ pick ≤ pool := by
      by_cases hc : pool < 0 ∨ pool > 1000 ∨ pick < 0 ∨ pick > pool
      · rw [chZ_zero hc] at hlt; omega
      · omega
    obtain ⟨N, rfl⟩ : ∃ N : Nat, pool = N := ⟨pool.toNat, by omega⟩
    obtain ⟨K, rfl⟩ : ∃ K : Nat, pick = K := ⟨pick.toNat, by omega⟩
    rw [chZ_nat (by omega)] at hlt
    simp only [Int.toNat_natCast]
    (repeat (with_reducible first | apply WP_seq | apply WP_region | apply thenQ_n | apply WP_skip))
    (apply wls; exact salloc1 hp (zeroTy_ok rfl) rfl; rintro _ w5 ⟨bs, rfl, hp⟩)
    (repeat (with_reducible first | apply WP_seq | apply WP_region | apply wpl_nil | apply thenQ_n))
    (apply wlp; apply pv_move; exact fT rfl)
    (apply wls; exact salloc1 hp (zeroTy_ok rfl) rfl; rintro _ w6 ⟨bl, rfl, hp⟩)
    (apply wls0; exact sstore1 hp 0 rfl rfl rfl rfl (sizeTy_ok rfl) rfl; rintro _ w7 ⟨rfl, hp⟩)
    have hp : Hp w [] w7 [blk bl 1 (frOf [.string (ofN n)]) 23, blk bs 1 (frOf [.slice none ([] : List Int).length 0]) 28, blk bk 1 (frOf [.int .i64 (K : Int)]) 3, blk bp 1 (frOf [.int .i64 (N : Int)]) 3, ownL eI 3 1 none 0 []] := hp.norm 0 [.string (ofN n)] rfl rfl
    (repeat (first | (with_reducible first | apply WP_seq | apply WP_block | apply WP_region | apply wpl_nil | apply thenQ_n) | (apply wlp; (first | apply pv_assign | apply pv_func); (first | exact fI rfl | exact fF rfl))))
    refine WP_loopS [11, 28, 29, 30, 31, 32, 33, 34, 35, 36] (fun (P : Nat) F => F.put 11 (.int .i64 ((N : Int) - P + 1)))
      (fun P w' => P ≤ N ∧ ∃ m r l s c, l.length + m = K ∧ r ≤ n ∧ r < ch P m ∧ l ++ un N P m r = un N N K n ∧ SVL s c l ∧ Hp w [] w' [blk bl 1 (frOf [.string (ofN r)]) 23, blk bs 1 (frOf [.slice s l.length c]) 28, blk bk 1 (frOf [.int .i64 (K : Int)]) 3, blk bp 1 (frOf [.int .i64 (N : Int)]) 3, ownL eI 3 1 s c l])
      (fun P => P) N (put_self (Same.eq .refl) (int_eq (by omega))) ⟨Nat.le_refl _, K, n, [], none, 0, by simp, Nat.le_refl _, hlt, rfl, SVL.nil, hp⟩ ?_
    clear hp
    rintro u P w8 ⟨hP, m, r, l, s, c, hlm, hrn, hrc, hl, hv, hp⟩
    (repeat (first | (with_reducible first | apply WP_seq | apply WP_region | apply wpl_nil | apply thenQ_n) | (apply wlp; ((first | (apply pf_load; exact rfl) | (apply pf_len; exact rfl) | apply pv_lss) <;> (first | exact rfl | exact hp.cell 1 rfl rfl | exact hp.cell 2 rfl rfl)); (first | exact fI rfl | exact fB rfl | exact fS rfl))))
    refine WP_cond_d rfl (fun h3 => ?_) (fun h3 => ?_)
    · obtain ⟨m, rfl⟩ : ∃ m', m = m' + 1 := ⟨m - 1, by omega⟩
      obtain ⟨P, rfl⟩ : ∃ P', P = P' + 1 := by
        cases P with
        | zero => simp [ch] at hrc
        | succ P => exact ⟨P, rfl⟩
      have ev : (N : Int) - ((P + 1 : Nat) : Int) + 1 = ((N - P : Nat) : Int) := by omega
      rw [ev]
      rw [un] at hl
      rw [ch] at hrc
      (repeat (first | (with_reducible first | apply WP_seq | apply WP_block | apply WP_region | apply thenQ_n | apply WP_skip) | (apply wlp; apply pv_move; (first | exact fI rfl | exact fF rfl))))
      (apply wls; exact st_call rfl ent48 rfl (c48 N K P m r l bp bk bs bl s c hp hv (by omega) (by omega) hlm (by omega) (hn.le hrn)); rintro _ w9 ⟨hA, hB2⟩)
      by_cases hc : r < ch P m
      · obtain ⟨s', c', hv', hp⟩ := hA hc
        rw [if_pos hc] at hl
        (repeat (first | (with_reducible first | apply WP_region | apply wpl_nil | apply thenQ_n | apply inBlk_n) | (apply wlp; apply pv_move; exact fI rfl)))
        (apply wlp; exact pv_add rfl rfl; exact int_eq (i64_in (by omega) (by omega)))
        (repeat (first | (with_reducible first | apply wpl_nil | apply thenQ_n) | (apply wlp; apply pv_assign; exact fI rfl)))
        exact ⟨P, put_self (Same.eq (by repeat (first | exact Same.hav | exact Same.refl | refine Same.put rfl ?_ | refine Same.havs rfl ?_))) (int_eq (by omega)), ⟨by omega, m, r, _, s', c', by simp; omega, hrn, hc, by rw [List.append_assoc]; exact hl, hv', hp⟩, by omega⟩
      · have hp := hB2 hc
        rw [if_neg hc] at hl
        (repeat (first | (with_reducible first | apply WP_region | apply wpl_nil | apply thenQ_n | apply inBlk_n) | (apply wlp; apply pv_move; exact fI rfl)))
        (apply wlp; exact pv_add rfl rfl; exact int_eq (i64_in (by omega) (by omega)))
        (repeat (first | (with_reducible first | apply wpl_nil | apply thenQ_n) | (apply wlp; apply pv_assign; exact fI rfl)))
        exact ⟨P, put_self (Same.eq (by repeat (first | exact Same.hav | exact Same.refl | refine Same.put rfl ?_ | refine Same.havs rfl ?_))) (int_eq (by omega)), ⟨by omega, m + 1, _, _, s, c, by omega, by omega, by omega, hl, hv, hp⟩, by omega⟩
    · obtain rfl : m = 0 := by omega
      rw [un_zero, List.append_nil] at hl
      subst hl
      (repeat (first | (with_reducible first | apply WP_seq | apply WP_region | apply wpl_nil | apply thenQ_n | apply thenQ_exit | apply WP_ret | apply WP_exit) | ((with_reducible apply inBlk_same); exact rfl) | (apply wlp; ((first | apply pv_assign | (apply pf_load; exact rfl)) <;> (first | exact rfl | exact hp.cell 1 rfl rfl)); (first | exact fB rfl | exact fS rfl))))
      exact ret_tmp2 rfl rfl rfl ⟨_, rfl, s, c, rfl, hv, hp.picks [4] _ rfl rfl⟩
  · have hB : unB pool pick n = false := by rw [hBc]; exact decide_eq_false hlt
    rw [hB, hno hB, if_neg hlt]
    (apply wlpT; exact rfl; exact rfl; exact pv_geq rfl rfl; exact bool_eq (b := true) (decide_eq_true (by split <;> omega)))
    (repeat (first | (with_reducible first | apply wpl_nil | apply thenQ_n) | (apply wlp; (intros; exact pv_orF rfl rfl); (intros; exact fB rfl)) | (apply wlpF; exact rfl; exact rfl; exact rfl) | (apply wlpU; exact rfl; exact rfl)))
    refine WP_cond_t rfl ?_
    (repeat (first | (with_reducible first | apply WP_seq | apply WP_region | apply wpl_nil | apply thenQ_n | apply thenQ_ret | apply WP_ret) | (apply wlp; apply pv_assign; (first | exact fB rfl | exact fS rfl))))
    exact ret_tmp2 rfl rfl rfl ⟨_, rfl, none, 0, rfl, SVL.nil, hp.picks [2] _ rfl rfl⟩
end Go.Proofs.YteklkjnhefnimaaDoor
