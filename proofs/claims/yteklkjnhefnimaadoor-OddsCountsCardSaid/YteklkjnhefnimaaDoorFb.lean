/- The law OddsOrder returns true; conditions: arguments that are bytes. -/
import Derived.Test.YteklkjnhefnimaaDoorEk
import Derived.Test.YteklkjnhefnimaaDoorNe
namespace Go.Proofs.YteklkjnhefnimaaDoor
open Go.Eng Go.Dig

theorem ch_small {p k : Nat} (hp : p < 9) : ch p k < 200 := by
  have h1 := ch_le_pow p k
  have h2 : ∀ p, p < 9 → ∀ k, k < 9 → ch p k < 200 := by decide
  by_cases hk : k < 9
  · exact h2 p hp k hk
  · rw [ch_gt p k (by omega)]
    decide
/-- the list of the rank before -/
def lastL (p k n : Nat) : List Int := if n = 0 then [] else un p p k (n - 1)
theorem unZ_in {p k n : Nat} (hp : p ≤ 60) (h : n < ch p k) : unB p k n = true ∧ unZ p k n = un p p k n := by
  have hB : unB p k n = true := by
    unfold unB
    rw [chZ_nat (by omega), decide_eq_true (by omega), decide_eq_true (by omega), decide_eq_true h]
    rfl
  refine ⟨hB, ?_⟩
  unfold unZ
  rw [if_pos hB]
  simp
theorem unZ_out {p k n : Nat} (hp : p ≤ 60) (h : ¬ n < ch p k) : unB p k n = false ∧ unZ p k n = [] := by
  have hB : unB p k n = false := by
    unfold unB
    rw [chZ_nat (by omega), decide_eq_false h]
    simp
  exact ⟨hB, by unfold unZ; rw [hB]; rfl⟩
theorem pn_rem8 {n : Nat} {F : Fr} {w : World} {d : Option Tmp} {ty : TypeId} {pos : String} {aft : Array Edge} {g : Option (Nat × Bool)} {x y : Operand} {t t' : Nat} {k : IntKind} {a b : Nat} (hx : ev n F x = .int k (a : Int)) (hy : ev n F y = .int k (b : Int)) (hb : 0 < b) : PV Tryd.prog n w F ⟨d, .binOp .rem t x y t', ty, pos, aft, g⟩ (.int k ((a % b : Nat) : Int)) := by
  have h := pv_rem (P := Tryd.prog) (w := w) (d := d) (ty := ty) (pos := pos) (aft := aft) (g := g) (t := t) (t' := t') hx hy (by omega)
  rwa [int_rem] at h
theorem SlAt_get {w : World} {s : Option Addr} {l : List Int} {i : Nat} (h : SlAt w 1 eI s l) (hi : i < l.length) : ∃ b o, s = some ⟨b, o, none⟩ ∧ w.cell? ⟨b, o + i * 1, none⟩ = some (.int .i64 (l.getD i 0)) := by
  obtain ⟨b, o, hs, hc⟩ := h.base (by omega)
  refine ⟨b, o, hs, ?_⟩
  rw [getD_at hi]
  exact hc i _ (List.getElem?_eq_getElem hi) 0 _ rfl

attribute [local irreducible] PV StepF wpl wpd WP Ret
attribute [local irreducible] Fit RB

theorem c6 (a b : Nat) (w : World) :
    Ret Tryd.prog 6 [.int .u8 (a : Int), .int .u8 (b : Int)] w (fun v w' => v = .bool true ∧ Keeps [] w w') := by
  obtain ⟨p, hp9⟩ : ∃ p, p = a % 9 := ⟨_, rfl⟩
  obtain ⟨k, hk9⟩ : ∃ k, k = b % 9 := ⟨_, rfl⟩
  have hp60 : p < 9 := by omega
  have hk60 : k < 9 := by omega
  have hch := ch_small (k := k) hp60
  refine Ret.of_WP Tryd.func6 rfl Tryd.ntmps6 rfl ?_
  have hp := Hp.start (M := []) (w := w)
  (repeat (first | (with_reducible first | apply WP_seq | apply WP_region | apply wpl_nil | apply thenQ_n) | (apply wlp; apply pv_assign; exact fB rfl)))
  (apply wls; exact st_call rfl ent11 rfl (c11 _); rintro _ w1 ⟨rfl, hk⟩; have hp := hp.call hk)
  (repeat (first | (with_reducible first | apply WP_seq | apply WP_region | apply wpl_nil | apply thenQ_n) | (apply wlp; (first | apply pv_move | apply pv_assign); (first | exact fI rfl | exact fB rfl))))
  (apply wlp; exact pn_rem8 (b := 9) rfl rfl (by decide); exact int_eq (b := (p : Int)) (by rw [hp9]))
  (apply wlp; exact pf_conv rfl rfl rfl; exact int_eq (b := (p : Int)) (i64_in (by omega) (by omega)))
  (repeat (apply wlp; apply pv_move; exact fI rfl))
  (apply wlp; exact pn_rem8 (b := 9) rfl rfl (by decide); exact int_eq (b := (k : Int)) (by rw [hk9]))
  (apply wlp; exact pf_conv rfl rfl rfl; exact int_eq (b := (k : Int)) (i64_in (by omega) (by omega)))
  (repeat (first | (with_reducible first | apply WP_seq | apply WP_block | apply WP_region | apply wpl_nil | apply thenQ_n) | (apply wlp; apply pv_assign; (first | exact fI rfl | exact fS rfl))))
  refine WP_loop3 [4, 8, 9, 10, 11, 12, 13, 21, 22, 23, 24, 25, 26, 27, 28, 29, 30, 31, 32, 33, 34, 35, 36, 37, 38, 39, 40, 41, 42, 43, 44, 45, 46, 47, 48, 49, 50, 51, 52, 53, 54, 55, 56, 57, 58, 59, 60, 61, 62, 63, 64, 65, 66, 67, 68, 69, 70, 71, 72, 73, 74, 75, 76, 77, 78, 79, 80, 81, 82, 83, 84, 85, 86, 87, 88, 89, 90, 91, 92, 93, 94, 95, 96, 97, 98, 99, 100, 101, 102, 103, 104, 105, 106, 107, 108, 109, 110, 111] (fun (n : Nat) (sl : Option Addr) (cl : Nat) F => (F.put 9 (.int .i64 (n : Int))).put 8 (.slice sl (lastL p k n).length cl))
    (fun n sl cl w' => n ≤ ch p k ∧ SlAt w' 1 eI sl (lastL p k n) ∧ Hp w [] w' []) (fun n _ _ => ch p k + 1 - n) 0 none 0 (put_self (put_self (Same.eq .refl) rfl) rfl) ⟨Nat.zero_le _, SlAt_nil, hp⟩ ?_
  clear hp
  rintro u n sl cl w2 ⟨hn, hsl, hp⟩
  (repeat (first | (with_reducible first | apply WP_seq | apply WP_region | apply wpl_nil | apply thenQ_n) | (apply wlp; ((first | apply pv_move | apply pv_lss) <;> exact rfl); (first | exact fI rfl | exact fB rfl))))
  refine WP_cond_d rfl (fun _ => ?_) (fun h => absurd h (by omega))
  (repeat (first | (with_reducible first | apply WP_seq | apply WP_block | apply WP_region | apply thenQ_n | apply WP_skip) | (apply wlp; apply pv_move; exact fI rfl)))
  (apply wls; exact st_call rfl ent13 rfl (c13 (n : Int) _ (by omega)); rintro _ w3 ⟨rfl, hk⟩; have hp := hp.call hk; have hsl := hsl.keep0 hk)
  rw [Int.toNat_natCast]
  skip
  (apply wls; exact st_call rfl ent19 rfl (c19 (p : Int) (k : Int) n _ (Fit.small (by omega))); rintro _ w4 ⟨s, c, rfl, hv, hpo⟩; have hp := hp.call hpo.keeps; have hsl := hsl.keep0 hpo.keeps)
  by_cases hlt : n < ch p k
  · obtain ⟨hB, hZ⟩ := unZ_in (by omega) hlt
    rw [hB, hZ]
    rw [hZ] at hv hpo
    have hs : SlAt w4 1 eI s (un p p k n) := ownL_At hpo 0 rfl hv (fun _ => rfl)
    clear hpo hv
    have hul := un_len p p k n hlt
    have hinc := un_incr p p k n (Nat.le_refl _)
    rw [Nat.sub_self] at hinc
    obtain ⟨d, hd1, hd2, hd3⟩ : ∃ d, d ≤ k ∧ (∀ i, i < d → 0 < n ∧ (un p p k n).getD i 0 = (lastL p k n).getD i 0) ∧ (0 < n → d < k ∧ (lastL p k n).getD d 0 < (un p p k n).getD d 0) := by
      by_cases h0 : n = 0
      · exact ⟨0, by omega, fun i hi => by omega, fun h => by omega⟩
      · obtain ⟨j, rfl⟩ : ∃ j, n = j + 1 := ⟨n - 1, by omega⟩
        have hl0 := un_len p p k j (by omega)
        obtain ⟨d, h1, h2, h3⟩ := lx_at (un_lx p p k j (Nat.le_refl _) hlt) (by rw [hl0, hul])
        have hll : lastL p k (j + 1) = un p p k j := rfl
        rw [hll]
        exact ⟨d, by omega, fun i hi => ⟨by omega, (h2 i hi).symm⟩, fun _ => ⟨by omega, h3⟩⟩
    have hlast : 0 < n → (lastL p k n).length = k := by
      intro h0
      unfold lastL
      rw [if_neg (by omega)]
      exact un_len p p k (n - 1) (by omega)
    generalize hU : un p p k n = U at *
    generalize hLL : lastL p k n = LL at *
    (repeat (first | (with_reducible first | apply WP_seq | apply WP_region | apply wpl_nil | apply thenQ_n) | (apply wlp; ((first | apply pv_move | apply pv_assign | apply pv_not | apply pv_extract) <;> exact rfl); (first | exact fB rfl | exact fS rfl | exact fU rfl))))
    refine WP_cond_f rfl ?_
    (repeat (first | (with_reducible first | apply WP_seq | apply WP_region | apply wpl_nil | apply thenQ_n | apply WP_skip) | (apply wlp; ((first | apply pv_move | (apply pf_len; exact rfl) | (apply pv_neq; (first | exact rfl | exact ev_sel rfl (by assumption)))) <;> exact rfl); (first | exact fI rfl | exact fB rfl | exact fS rfl))))
    refine WP_cond_nd rfl (fun h => absurd (show (U.length : Int) = k by omega) h) (fun _ => ?_)
    (repeat (first | (with_reducible first | apply WP_seq | apply WP_block | apply WP_region | apply wpl_nil | apply thenQ_n | apply WP_skip) | (apply wlp; apply pv_assign; exact fI rfl)))
    refine WP_loopS [12, 39, 40, 41, 42, 43, 44, 45, 46, 47, 48, 49, 50, 51, 52, 53, 54, 55, 56, 57, 58] (fun (i : Nat) F => F.put 12 (.int .i64 (i : Int))) (fun i w' => i ≤ d ∧ SlAt w' 1 eI s U ∧ SlAt w' 1 eI sl LL ∧ Hp w [] w' []) (fun i => d - i) 0 (put_self (Same.eq .refl) rfl) ⟨Nat.zero_le _, hs, hsl, hp⟩ ?_
    clear hp hs hsl
    rintro u2 i w5 ⟨hid, hs, hsl, hp⟩
    (repeat with_reducible apply WP_seq)
    have hpw := hp
    refine WP_draw mixed (by kernel_rfl) (fun w' => Hp w5 [] w' []) Hp.start.drew ?_
    (apply wdp; exact rfl; (intro w hp; exact pv_move); exact fI rfl)
    (apply wdp; exact rfl; (intro w hp; exact pv_move); exact fI rfl)
    by_cases hidd : i < d
    · obtain ⟨hn0, hval⟩ := hd2 i hidd
      have hll := hlast hn0
      have hiU : i < U.length := by omega
      have hiL : i < LL.length := by omega
      obtain ⟨b0, o0, hs0, hc0⟩ := SlAt_get hs hiU
      obtain ⟨b1, o1, hs1, hc1⟩ := SlAt_get hsl hiL
      (apply wdp; exact rfl; (intro w hp; exact pv_lss rfl rfl); exact bool_eq (b := true) (decide_eq_true (by omega)))
      (apply wdp; exact rfl; (intro w hp; exact pv_move); exact fB rfl)
      (apply wdpT; exact rfl; exact rfl; exact rfl; (intro w hp; exact pv_move); exact fI rfl)
      (apply wdpT; exact rfl; exact rfl; exact rfl; (intro w hp; exact pv_gtr rfl rfl); exact bool_eq (b := true) (decide_eq_true (by omega)))
      (repeat (first | ((apply wdp; exact rfl); (intro w hp; intros; ((first | apply pv_move | (apply pf_load; exact rfl) | exact pv_andT rfl rfl | (apply pv_eql; (first | exact rfl | exact ev_sel rfl (by assumption))) | (apply pf_index; exact rfl)) <;> (first | exact rfl | assumption | exact hp.old0 (by assumption)))); (intros; (first | exact fI rfl | exact fB rfl | exact fP rfl | exact fS rfl))) | ((apply wdpT; exact rfl; exact rfl; exact rfl); (intro w hp; ((first | apply pv_move | (apply pf_load; exact rfl) | exact pv_andT rfl rfl | (apply pv_eql; (first | exact rfl | exact ev_sel rfl (by assumption))) | (apply pf_index; exact rfl)) <;> (first | exact rfl | assumption | exact hp.old0 (by assumption)))); (intros; (first | exact fI rfl | exact fB rfl | exact fP rfl | exact fS rfl))) | (apply wdpF; exact rfl; exact rfl; exact rfl; exact rfl) | (apply wdpU; exact rfl; exact rfl; exact rfl)))
      refine wpd_nil ?_
      refine WP_cond_d rfl (fun _ => ?_) (fun h => absurd hval h)
      have hp := hpw.drew
      (repeat (first | (with_reducible first | apply WP_block | apply WP_region | apply thenQ_n | apply WP_skip) | (apply wlp; apply pv_move; exact fI rfl)))
      (apply wlp; exact pv_add rfl rfl; exact int_eq (i64_in (by omega) (by omega)))
      (repeat (first | (with_reducible first | apply wpl_nil | apply thenQ_n | apply inBlk_n) | (apply wlp; apply pv_assign; exact fI rfl)))
      exact ⟨i + 1, put_self (Same.eq (by repeat (first | exact Same.hav | exact Same.refl | refine Same.put rfl ?_ | refine Same.havs rfl ?_))) rfl, ⟨by omega, hs.keep0 Keeps.refl.drew, hsl.keep0 Keeps.refl.drew, hp⟩, by omega⟩
    · obtain rfl : i = d := by omega
      by_cases hn0 : 0 < n
      · obtain ⟨hik, hcmp⟩ := hd3 hn0
        have hll := hlast hn0
        have hiU : i < U.length := by omega
        have hiL : i < LL.length := by omega
        obtain ⟨b0, o0, hs0, hc0⟩ := SlAt_get hs hiU
        obtain ⟨b1, o1, hs1, hc1⟩ := SlAt_get hsl hiL
        (apply wdp; exact rfl; (intro w hp; exact pv_lss rfl rfl); exact bool_eq (b := true) (decide_eq_true (by omega)))
        (apply wdp; exact rfl; (intro w hp; exact pv_move); exact fB rfl)
        (apply wdpT; exact rfl; exact rfl; exact rfl; (intro w hp; exact pv_move); exact fI rfl)
        (apply wdpT; exact rfl; exact rfl; exact rfl; (intro w hp; exact pv_gtr rfl rfl); exact bool_eq (b := true) (decide_eq_true (by omega)))
        (repeat (first | ((apply wdp; exact rfl); (intro w hp; intros; ((first | apply pv_move | (apply pf_load; exact rfl) | exact pv_andT rfl rfl | (apply pv_eql; (first | exact rfl | exact ev_sel rfl (by assumption))) | (apply pf_index; exact rfl)) <;> (first | exact rfl | assumption | exact hp.old0 (by assumption)))); (intros; (first | exact fI rfl | exact fB rfl | exact fP rfl | exact fS rfl))) | ((apply wdpT; exact rfl; exact rfl; exact rfl); (intro w hp; ((first | apply pv_move | (apply pf_load; exact rfl) | exact pv_andT rfl rfl | (apply pv_eql; (first | exact rfl | exact ev_sel rfl (by assumption))) | (apply pf_index; exact rfl)) <;> (first | exact rfl | assumption | exact hp.old0 (by assumption)))); (intros; (first | exact fI rfl | exact fB rfl | exact fP rfl | exact fS rfl))) | (apply wdpF; exact rfl; exact rfl; exact rfl; exact rfl) | (apply wdpU; exact rfl; exact rfl; exact rfl)))
        refine wpd_nil ?_
        refine WP_cond_d rfl (fun h => absurd h (by omega)) (fun _ => ?_)
        have hp := hpw.drew
        have hs := hs.keep0 (Keeps.refl (M := [])).drew
        have hsl := hsl.keep0 (Keeps.refl (M := [])).drew
        clear hpw hc0 hc1
        (repeat (first | (with_reducible first | apply WP_seq | apply thenQ_n | apply thenQ_exit | apply WP_exit) | ((with_reducible apply inBlk_same); exact rfl)))
        refine WP_draw mixed (by kernel_rfl) (fun w' => Hp w5.drew [] w' []) Hp.start.drew ?_
        obtain ⟨b0, o0, hs0, hc0⟩ := SlAt_get hs hiU
        obtain ⟨b1, o1, hs1, hc1⟩ := SlAt_get hsl hiL
        (apply wdp; exact rfl; (intro w hp; exact pv_move); exact fI rfl)
        (apply wdp; exact rfl; (intro w hp; exact pv_gtr rfl rfl); exact bool_eq (b := true) (decide_eq_true (by omega)))
        (apply wdp; exact rfl; (intro w hp; exact pv_move); exact fB rfl)
        (apply wdpT; exact rfl; exact rfl; exact rfl; (intro w hp; exact pv_move); exact fI rfl)
        (apply wdpT; exact rfl; exact rfl; exact rfl; (intro w hp; exact pv_move); exact fI rfl)
        (apply wdpT; exact rfl; exact rfl; exact rfl; (intro w hp; exact pv_eql rfl rfl); exact bool_eq (b := false) (decide_eq_false (by omega)))
        (repeat (first | ((apply wdp; exact rfl); (intro w hp; intros; ((first | apply pv_move | (apply pf_load; exact rfl) | exact pv_andT rfl rfl | exact pv_orF rfl rfl | apply pv_lss | (apply pf_index; exact rfl)) <;> (first | exact rfl | assumption | exact hp.old0 (by assumption)))); (intros; (first | exact fI rfl | exact fB rfl | exact fP rfl | exact fS rfl))) | ((apply wdpT; exact rfl; exact rfl; exact rfl); (intro w hp; ((first | apply pv_move | (apply pf_load; exact rfl) | exact pv_andT rfl rfl | exact pv_orF rfl rfl | apply pv_lss | (apply pf_index; exact rfl)) <;> (first | exact rfl | assumption | exact hp.old0 (by assumption)))); (intros; (first | exact fI rfl | exact fB rfl | exact fP rfl | exact fS rfl))) | (apply wdpF; exact rfl; exact rfl; exact rfl; exact rfl) | (apply wdpU; exact rfl; exact rfl; exact rfl)))
        refine wpd_nil ?_
        refine WP_cond_d rfl (fun h => absurd h (by omega)) (fun _ => ?_)
        have hp := hp.drew
        have hs := hs.keep0 (Keeps.refl (M := [])).drew
        clear hc0 hc1 hsl
        (repeat (first | (with_reducible first | apply WP_seq | apply WP_block | apply WP_region | apply wpl_nil | apply thenQ_n | apply WP_skip) | (apply wlp; apply pv_assign; exact fI rfl)))
        refine WP_loopS [4, 13, 77, 78, 79, 80, 81, 82, 83, 84, 85, 86, 87, 88, 89, 90, 91, 92, 93, 94, 95, 96, 97, 98, 99, 100, 101, 102, 103, 104, 105, 106, 107, 108, 109, 110] (fun (j : Nat) F => F.put 13 (.int .i64 (j : Int))) (fun j w' => j ≤ k ∧ SlAt w' 1 eI s U ∧ Hp w [] w' []) (fun j => k - j) 0 (put_self (Same.eq .refl) rfl) ⟨Nat.zero_le _, hs, hp⟩ ?_
        clear hp hs
        rintro u3 j w6 ⟨hjk, hs, hp⟩
        (repeat (first | (with_reducible first | apply WP_seq | apply WP_region | apply wpl_nil | apply thenQ_n) | (apply wlp; ((first | apply pv_move | apply pv_lss) <;> exact rfl); (first | exact fI rfl | exact fB rfl))))
        refine WP_cond_d rfl (fun h => ?_) (fun h => ?_)
        · have hjU : j < U.length := by omega
          obtain ⟨hi1, hi2, hi3⟩ := incr_at hinc hjU
          obtain ⟨b0, o0, hs0, hc0⟩ := SlAt_get hs hjU
          (repeat (with_reducible first | apply WP_seq | apply WP_block | apply thenQ_n | apply WP_skip))
          refine WP_draw mixed (by kernel_rfl) (fun w' => Hp w6 [] w' []) Hp.start.drew ?_
          have hcc := hc0
          by_cases hj0 : j = 0
          · have h0U : 0 < U.length := by omega
            subst hj0
            (apply wdp; exact rfl; (intro w hp; exact pv_move); exact fS rfl)
            (apply wdp; exact rfl; (intro w hp; exact pv_move); exact fI rfl)
            (apply wdp; exact rfl; (intro w hp; exact pf_index (i := 0) rfl rfl rfl hs0 h0U); exact fP rfl)
            (apply wdp; exact rfl; (intro w hp; exact pf_load rfl rfl (hp.old0 hc0)); exact fI rfl)
            (apply wdp; exact rfl; (intro w hp; exact pv_lss rfl rfl); exact bool_eq (b := false) (decide_eq_false (by omega)))
            (apply wdp; exact rfl; (intro w hp; exact pv_move); exact fB rfl)
            (apply wdpT; exact rfl; exact rfl; exact rfl; (intro w hp; exact pv_move); exact fS rfl)
            (apply wdpT; exact rfl; exact rfl; exact rfl; (intro w hp; exact pv_move); exact fI rfl)
            (apply wdpT; exact rfl; exact rfl; exact rfl; (intro w hp; exact pf_index (i := 0) rfl rfl rfl hs0 h0U); exact fP rfl)
            (apply wdpT; exact rfl; exact rfl; exact rfl; (intro w hp; exact pf_load rfl rfl (hp.old0 hc0)); exact fI rfl)
            (apply wdpT; exact rfl; exact rfl; exact rfl; (intro w hp; exact pv_move); exact fI rfl)
            (apply wdpT; exact rfl; exact rfl; exact rfl; (intro w hp; exact pv_gtr rfl rfl); exact bool_eq (b := false) (decide_eq_false (by omega)))
            (apply wdp; exact rfl; (intro w hp; exact pv_orF rfl rfl); exact fB rfl)
            (apply wdp; exact rfl; (intro w hp; exact pv_move); exact fB rfl)
            (apply wdpT; exact rfl; exact rfl; exact rfl; (intro w hp; exact pv_move); exact fI rfl)
            (apply wdpT; exact rfl; exact rfl; exact rfl; (intro w hp; exact pv_gtr rfl rfl); exact bool_eq (b := false) (decide_eq_false (by omega)))
            (repeat (first | ((apply wdp; exact rfl); (intro w hp; intros; (first | apply pv_move | exact pv_andF rfl | exact pv_orF rfl rfl)); (intros; exact fB rfl)) | ((apply wdpT; exact rfl; exact rfl; exact rfl); (intro w hp; (first | apply pv_move | exact pv_andF rfl | exact pv_orF rfl rfl)); (intros; exact fB rfl)) | (apply wdpF; exact rfl; exact rfl; exact rfl; exact rfl) | (apply wdpU; exact rfl; exact rfl; exact rfl)))
            refine wpd_nil ?_
            refine WP_cond_f rfl ?_
            have hp := hp.drew
            (repeat (first | (with_reducible first | apply WP_region | apply thenQ_n | apply inBlk_n | apply WP_skip) | (apply wlp; apply pv_move; exact fI rfl)))
            (apply wlp; exact pv_add rfl rfl; exact int_eq (i64_in (by omega) (by omega)))
            (repeat (first | (with_reducible first | apply wpl_nil | apply thenQ_n) | (apply wlp; apply pv_assign; exact fI rfl)))
            exact ⟨0 + 1, put_self (Same.eq (by repeat (first | exact Same.hav | exact Same.refl | refine Same.put rfl ?_ | refine Same.havs rfl ?_))) rfl, ⟨by omega, hs.keep0 (Keeps.refl (M := [])).drew, hp⟩, by omega⟩
          · obtain ⟨q, rfl⟩ : ∃ q, j = q + 1 := ⟨j - 1, by omega⟩
            have hqU : q < U.length := by omega
            obtain ⟨b1, o1, hs1, hc1⟩ := SlAt_get hs hqU
            obtain ⟨rfl, rfl⟩ : b1 = b0 ∧ o1 = o0 := by
              rw [hs0] at hs1
              cases hs1
              exact ⟨rfl, rfl⟩
            have hi3 := hi3 (by omega)
            rw [Nat.add_sub_cancel] at hi3
            (apply wdp; exact rfl; (intro w hp; exact pv_move); exact fS rfl)
            (apply wdp; exact rfl; (intro w hp; exact pv_move); exact fI rfl)
            (apply wdp; exact rfl; (intro w hp; exact pf_index rfl rfl rfl hs0 hjU); exact fP rfl)
            (apply wdp; exact rfl; (intro w hp; exact pf_load rfl rfl (hp.old0 hc0)); exact fI rfl)
            (apply wdp; exact rfl; (intro w hp; exact pv_lss rfl rfl); exact bool_eq (b := false) (decide_eq_false (by omega)))
            (apply wdp; exact rfl; (intro w hp; exact pv_move); exact fB rfl)
            (apply wdpT; exact rfl; exact rfl; exact rfl; (intro w hp; exact pv_move); exact fS rfl)
            (apply wdpT; exact rfl; exact rfl; exact rfl; (intro w hp; exact pv_move); exact fI rfl)
            (apply wdpT; exact rfl; exact rfl; exact rfl; (intro w hp; exact pf_index rfl rfl rfl hs0 hjU); exact fP rfl)
            (apply wdpT; exact rfl; exact rfl; exact rfl; (intro w hp; exact pf_load rfl rfl (hp.old0 hc0)); exact fI rfl)
            (apply wdpT; exact rfl; exact rfl; exact rfl; (intro w hp; exact pv_move); exact fI rfl)
            (apply wdpT; exact rfl; exact rfl; exact rfl; (intro w hp; exact pv_gtr rfl rfl); exact bool_eq (b := false) (decide_eq_false (by omega)))
            (apply wdp; exact rfl; (intro w hp; exact pv_orF rfl rfl); exact fB rfl)
            (apply wdp; exact rfl; (intro w hp; exact pv_move); exact fB rfl)
            (apply wdpT; exact rfl; exact rfl; exact rfl; (intro w hp; exact pv_move); exact fI rfl)
            (apply wdpT; exact rfl; exact rfl; exact rfl; (intro w hp; exact pv_gtr rfl rfl); exact bool_eq (b := true) (decide_eq_true (by omega)))
            (apply wdpT; exact rfl; exact rfl; exact rfl; (intro w hp; exact pv_move); exact fB rfl)
            (apply wdpT; exact rfl; exact rfl; exact rfl; (intro w hp; exact pv_move); exact fS rfl)
            (apply wdpT; exact rfl; exact rfl; exact rfl; (intro w hp; exact pv_move); exact fI rfl)
            (apply wdpT; exact rfl; exact rfl; exact rfl; (intro w hp; exact pf_index rfl rfl rfl hs0 hjU); exact fP rfl)
            (apply wdpT; exact rfl; exact rfl; exact rfl; (intro w hp; exact pf_load rfl rfl (hp.old0 hc0)); exact fI rfl)
            (apply wdpT; exact rfl; exact rfl; exact rfl; (intro w hp; exact pv_move); exact fS rfl)
            (apply wdpT; exact rfl; exact rfl; exact rfl; (intro w hp; exact pv_move); exact fI rfl)
            (apply wdpT; exact rfl; exact rfl; exact rfl; (intro w hp; exact pv_sub rfl rfl); exact int_eq (b := ((q : Nat) : Int)) (by rw [i64_in (by omega) (by omega)]; omega))
            (apply wdpT; exact rfl; exact rfl; exact rfl; (intro w hp; exact pf_index rfl rfl rfl hs0 hqU); exact fP rfl)
            (apply wdpT; exact rfl; exact rfl; exact rfl; (intro w hp; exact pf_load rfl rfl (hp.old0 hc1)); exact fI rfl)
            (apply wdpT; exact rfl; exact rfl; exact rfl; (intro w hp; exact pv_leq rfl rfl); exact bool_eq (b := false) (decide_eq_false (by omega)))
            (repeat (first | ((apply wdp; exact rfl); (intro w hp; intros; (first | exact pv_andT rfl rfl | exact pv_orF rfl rfl)); (intros; exact fB rfl)) | ((apply wdpT; exact rfl; exact rfl; exact rfl); (intro w hp; (first | exact pv_andT rfl rfl | exact pv_orF rfl rfl)); (intros; exact fB rfl)) | (apply wdpF; exact rfl; exact rfl; exact rfl; exact rfl) | (apply wdpU; exact rfl; exact rfl; exact rfl)))
            refine wpd_nil ?_
            refine WP_cond_f rfl ?_
            have hp := hp.drew
            (repeat (first | (with_reducible first | apply WP_region | apply thenQ_n | apply inBlk_n | apply WP_skip) | (apply wlp; apply pv_move; exact fI rfl)))
            (apply wlp; exact pv_add rfl rfl; exact int_eq (i64_in (by omega) (by omega)))
            (repeat (first | (with_reducible first | apply wpl_nil | apply thenQ_n) | (apply wlp; apply pv_assign; exact fI rfl)))
            exact ⟨q + 1 + 1, put_self (Same.eq (by repeat (first | exact Same.hav | exact Same.refl | refine Same.put rfl ?_ | refine Same.havs rfl ?_))) rfl, ⟨by omega, hs.keep0 (Keeps.refl (M := [])).drew, hp⟩, by omega⟩
        · (repeat (first | (with_reducible first | apply WP_region | apply wpl_nil | apply thenQ_n | apply inBlk_n | apply thenQ_exit | apply WP_exit) | ((with_reducible apply inBlk_same); exact rfl) | (apply wlp; (first | apply pv_move | apply pv_assign); (first | exact fI rfl | exact fS rfl))))
          (apply wlp; exact pv_add rfl rfl; exact int_eq (i64_in (by omega) (by omega)))
          (repeat (first | (with_reducible first | apply wpl_nil | apply thenQ_n) | (apply wlp; apply pv_assign; exact fI rfl)))
          have hLn : lastL p k (n + 1) = U := by rw [← hU]; rfl
          exact ⟨n + 1, s, c, put_self (put_self (Same.eq (by repeat (first | exact Same.hav | exact Same.refl | refine Same.put rfl ?_ | refine Same.havs rfl ?_))) rfl) (by rw [hLn]; rfl), ⟨by omega, by rw [hLn]; exact hs, hp⟩, by omega⟩
      · obtain rfl : n = 0 := by omega
        obtain rfl : i = 0 := by
          rcases Nat.eq_zero_or_pos i with h | h
          · exact h
          · exact absurd (hd2 0 h).1 (by omega)
        by_cases hk0 : 0 < k
        · (apply wdp; exact rfl; (intro w hp; exact pv_lss rfl rfl); exact bool_eq (b := true) (decide_eq_true (by omega)))
          (apply wdp; exact rfl; (intro w hp; exact pv_move); exact fB rfl)
          (apply wdpT; exact rfl; exact rfl; exact rfl; (intro w hp; exact pv_move); exact fI rfl)
          (apply wdpT; exact rfl; exact rfl; exact rfl; (intro w hp; exact pv_gtr rfl rfl); exact bool_eq (b := false) (decide_eq_false (by omega)))
          (repeat (first | ((apply wdp; exact rfl); (intro w hp; intros; (first | apply pv_move | exact pv_andF rfl | exact pv_andT rfl rfl)); (intros; exact fB rfl)) | (apply wdpF; exact rfl; exact rfl; exact rfl; exact rfl) | (apply wdpU; exact rfl; exact rfl; exact rfl)))
          refine wpd_nil ?_
          refine WP_cond_f rfl ?_
          have hp := hpw.drew
          have hs := hs.keep0 (Keeps.refl (M := [])).drew
          clear hpw hsl
          (repeat (first | (with_reducible first | apply WP_seq | apply thenQ_n | apply thenQ_exit | apply WP_exit) | ((with_reducible apply inBlk_same); exact rfl)))
          refine WP_draw mixed (by kernel_rfl) (fun w' => Hp w5.drew [] w' []) Hp.start.drew ?_
          (apply wdp; exact rfl; (intro w hp; exact pv_move); exact fI rfl)
          (apply wdp; exact rfl; (intro w hp; exact pv_gtr rfl rfl); exact bool_eq (b := false) (decide_eq_false (by omega)))
          (repeat (first | ((apply wdp; exact rfl); (intro w hp; intros; (first | apply pv_move | exact pv_andF rfl)); (intros; exact fB rfl)) | (apply wdpF; exact rfl; exact rfl; exact rfl; exact rfl) | (apply wdpU; exact rfl; exact rfl; exact rfl)))
          refine wpd_nil ?_
          refine WP_cond_f rfl ?_
          have hp := hp.drew
          have hs := hs.keep0 (Keeps.refl (M := [])).drew
          (repeat (first | (with_reducible first | apply WP_seq | apply WP_block | apply WP_region | apply wpl_nil | apply thenQ_n | apply WP_skip) | (apply wlp; apply pv_assign; exact fI rfl)))
          refine WP_loopS [4, 13, 77, 78, 79, 80, 81, 82, 83, 84, 85, 86, 87, 88, 89, 90, 91, 92, 93, 94, 95, 96, 97, 98, 99, 100, 101, 102, 103, 104, 105, 106, 107, 108, 109, 110] (fun (j : Nat) F => F.put 13 (.int .i64 (j : Int))) (fun j w' => j ≤ k ∧ SlAt w' 1 eI s U ∧ Hp w [] w' []) (fun j => k - j) 0 (put_self (Same.eq .refl) rfl) ⟨Nat.zero_le _, hs, hp⟩ ?_
          clear hp hs
          rintro u3 j w6 ⟨hjk, hs, hp⟩
          (repeat (first | (with_reducible first | apply WP_seq | apply WP_region | apply wpl_nil | apply thenQ_n) | (apply wlp; ((first | apply pv_move | apply pv_lss) <;> exact rfl); (first | exact fI rfl | exact fB rfl))))
          refine WP_cond_d rfl (fun h => ?_) (fun h => ?_)
          · have hjU : j < U.length := by omega
            obtain ⟨hi1, hi2, hi3⟩ := incr_at hinc hjU
            obtain ⟨b0, o0, hs0, hc0⟩ := SlAt_get hs hjU
            (repeat (with_reducible first | apply WP_seq | apply WP_block | apply thenQ_n | apply WP_skip))
            refine WP_draw mixed (by kernel_rfl) (fun w' => Hp w6 [] w' []) Hp.start.drew ?_
            have hcc := hc0
            by_cases hj0 : j = 0
            · have h0U : 0 < U.length := by omega
              subst hj0
              (apply wdp; exact rfl; (intro w hp; exact pv_move); exact fS rfl)
              (apply wdp; exact rfl; (intro w hp; exact pv_move); exact fI rfl)
              (apply wdp; exact rfl; (intro w hp; exact pf_index (i := 0) rfl rfl rfl hs0 h0U); exact fP rfl)
              (apply wdp; exact rfl; (intro w hp; exact pf_load rfl rfl (hp.old0 hc0)); exact fI rfl)
              (apply wdp; exact rfl; (intro w hp; exact pv_lss rfl rfl); exact bool_eq (b := false) (decide_eq_false (by omega)))
              (apply wdp; exact rfl; (intro w hp; exact pv_move); exact fB rfl)
              (apply wdpT; exact rfl; exact rfl; exact rfl; (intro w hp; exact pv_move); exact fS rfl)
              (apply wdpT; exact rfl; exact rfl; exact rfl; (intro w hp; exact pv_move); exact fI rfl)
              (apply wdpT; exact rfl; exact rfl; exact rfl; (intro w hp; exact pf_index (i := 0) rfl rfl rfl hs0 h0U); exact fP rfl)
              (apply wdpT; exact rfl; exact rfl; exact rfl; (intro w hp; exact pf_load rfl rfl (hp.old0 hc0)); exact fI rfl)
              (apply wdpT; exact rfl; exact rfl; exact rfl; (intro w hp; exact pv_move); exact fI rfl)
              (apply wdpT; exact rfl; exact rfl; exact rfl; (intro w hp; exact pv_gtr rfl rfl); exact bool_eq (b := false) (decide_eq_false (by omega)))
              (apply wdp; exact rfl; (intro w hp; exact pv_orF rfl rfl); exact fB rfl)
              (apply wdp; exact rfl; (intro w hp; exact pv_move); exact fB rfl)
              (apply wdpT; exact rfl; exact rfl; exact rfl; (intro w hp; exact pv_move); exact fI rfl)
              (apply wdpT; exact rfl; exact rfl; exact rfl; (intro w hp; exact pv_gtr rfl rfl); exact bool_eq (b := false) (decide_eq_false (by omega)))
              (repeat (first | ((apply wdp; exact rfl); (intro w hp; intros; (first | apply pv_move | exact pv_andF rfl | exact pv_orF rfl rfl)); (intros; exact fB rfl)) | ((apply wdpT; exact rfl; exact rfl; exact rfl); (intro w hp; (first | apply pv_move | exact pv_andF rfl | exact pv_orF rfl rfl)); (intros; exact fB rfl)) | (apply wdpF; exact rfl; exact rfl; exact rfl; exact rfl) | (apply wdpU; exact rfl; exact rfl; exact rfl)))
              refine wpd_nil ?_
              refine WP_cond_f rfl ?_
              have hp := hp.drew
              (repeat (first | (with_reducible first | apply WP_region | apply thenQ_n | apply inBlk_n | apply WP_skip) | (apply wlp; apply pv_move; exact fI rfl)))
              (apply wlp; exact pv_add rfl rfl; exact int_eq (i64_in (by omega) (by omega)))
              (repeat (first | (with_reducible first | apply wpl_nil | apply thenQ_n) | (apply wlp; apply pv_assign; exact fI rfl)))
              exact ⟨0 + 1, put_self (Same.eq (by repeat (first | exact Same.hav | exact Same.refl | refine Same.put rfl ?_ | refine Same.havs rfl ?_))) rfl, ⟨by omega, hs.keep0 (Keeps.refl (M := [])).drew, hp⟩, by omega⟩
            · obtain ⟨q, rfl⟩ : ∃ q, j = q + 1 := ⟨j - 1, by omega⟩
              have hqU : q < U.length := by omega
              obtain ⟨b1, o1, hs1, hc1⟩ := SlAt_get hs hqU
              obtain ⟨rfl, rfl⟩ : b1 = b0 ∧ o1 = o0 := by
                rw [hs0] at hs1
                cases hs1
                exact ⟨rfl, rfl⟩
              have hi3 := hi3 (by omega)
              rw [Nat.add_sub_cancel] at hi3
              (apply wdp; exact rfl; (intro w hp; exact pv_move); exact fS rfl)
              (apply wdp; exact rfl; (intro w hp; exact pv_move); exact fI rfl)
              (apply wdp; exact rfl; (intro w hp; exact pf_index rfl rfl rfl hs0 hjU); exact fP rfl)
              (apply wdp; exact rfl; (intro w hp; exact pf_load rfl rfl (hp.old0 hc0)); exact fI rfl)
              (apply wdp; exact rfl; (intro w hp; exact pv_lss rfl rfl); exact bool_eq (b := false) (decide_eq_false (by omega)))
              (apply wdp; exact rfl; (intro w hp; exact pv_move); exact fB rfl)
              (apply wdpT; exact rfl; exact rfl; exact rfl; (intro w hp; exact pv_move); exact fS rfl)
              (apply wdpT; exact rfl; exact rfl; exact rfl; (intro w hp; exact pv_move); exact fI rfl)
              (apply wdpT; exact rfl; exact rfl; exact rfl; (intro w hp; exact pf_index rfl rfl rfl hs0 hjU); exact fP rfl)
              (apply wdpT; exact rfl; exact rfl; exact rfl; (intro w hp; exact pf_load rfl rfl (hp.old0 hc0)); exact fI rfl)
              (apply wdpT; exact rfl; exact rfl; exact rfl; (intro w hp; exact pv_move); exact fI rfl)
              (apply wdpT; exact rfl; exact rfl; exact rfl; (intro w hp; exact pv_gtr rfl rfl); exact bool_eq (b := false) (decide_eq_false (by omega)))
              (apply wdp; exact rfl; (intro w hp; exact pv_orF rfl rfl); exact fB rfl)
              (apply wdp; exact rfl; (intro w hp; exact pv_move); exact fB rfl)
              (apply wdpT; exact rfl; exact rfl; exact rfl; (intro w hp; exact pv_move); exact fI rfl)
              (apply wdpT; exact rfl; exact rfl; exact rfl; (intro w hp; exact pv_gtr rfl rfl); exact bool_eq (b := true) (decide_eq_true (by omega)))
              (apply wdpT; exact rfl; exact rfl; exact rfl; (intro w hp; exact pv_move); exact fB rfl)
              (apply wdpT; exact rfl; exact rfl; exact rfl; (intro w hp; exact pv_move); exact fS rfl)
              (apply wdpT; exact rfl; exact rfl; exact rfl; (intro w hp; exact pv_move); exact fI rfl)
              (apply wdpT; exact rfl; exact rfl; exact rfl; (intro w hp; exact pf_index rfl rfl rfl hs0 hjU); exact fP rfl)
              (apply wdpT; exact rfl; exact rfl; exact rfl; (intro w hp; exact pf_load rfl rfl (hp.old0 hc0)); exact fI rfl)
              (apply wdpT; exact rfl; exact rfl; exact rfl; (intro w hp; exact pv_move); exact fS rfl)
              (apply wdpT; exact rfl; exact rfl; exact rfl; (intro w hp; exact pv_move); exact fI rfl)
              (apply wdpT; exact rfl; exact rfl; exact rfl; (intro w hp; exact pv_sub rfl rfl); exact int_eq (b := ((q : Nat) : Int)) (by rw [i64_in (by omega) (by omega)]; omega))
              (apply wdpT; exact rfl; exact rfl; exact rfl; (intro w hp; exact pf_index rfl rfl rfl hs0 hqU); exact fP rfl)
              (apply wdpT; exact rfl; exact rfl; exact rfl; (intro w hp; exact pf_load rfl rfl (hp.old0 hc1)); exact fI rfl)
              (apply wdpT; exact rfl; exact rfl; exact rfl; (intro w hp; exact pv_leq rfl rfl); exact bool_eq (b := false) (decide_eq_false (by omega)))
              (repeat (first | ((apply wdp; exact rfl); (intro w hp; intros; (first | exact pv_andT rfl rfl | exact pv_orF rfl rfl)); (intros; exact fB rfl)) | ((apply wdpT; exact rfl; exact rfl; exact rfl); (intro w hp; (first | exact pv_andT rfl rfl | exact pv_orF rfl rfl)); (intros; exact fB rfl)) | (apply wdpF; exact rfl; exact rfl; exact rfl; exact rfl) | (apply wdpU; exact rfl; exact rfl; exact rfl)))
              refine wpd_nil ?_
              refine WP_cond_f rfl ?_
              have hp := hp.drew
              (repeat (first | (with_reducible first | apply WP_region | apply thenQ_n | apply inBlk_n | apply WP_skip) | (apply wlp; apply pv_move; exact fI rfl)))
              (apply wlp; exact pv_add rfl rfl; exact int_eq (i64_in (by omega) (by omega)))
              (repeat (first | (with_reducible first | apply wpl_nil | apply thenQ_n) | (apply wlp; apply pv_assign; exact fI rfl)))
              exact ⟨q + 1 + 1, put_self (Same.eq (by repeat (first | exact Same.hav | exact Same.refl | refine Same.put rfl ?_ | refine Same.havs rfl ?_))) rfl, ⟨by omega, hs.keep0 (Keeps.refl (M := [])).drew, hp⟩, by omega⟩
          · (repeat (first | (with_reducible first | apply WP_region | apply wpl_nil | apply thenQ_n | apply inBlk_n | apply thenQ_exit | apply WP_exit) | ((with_reducible apply inBlk_same); exact rfl) | (apply wlp; (first | apply pv_move | apply pv_assign); (first | exact fI rfl | exact fS rfl))))
            (apply wlp; exact pv_add rfl rfl; exact int_eq (i64_in (by omega) (by omega)))
            (repeat (first | (with_reducible first | apply wpl_nil | apply thenQ_n) | (apply wlp; apply pv_assign; exact fI rfl)))
            have hLn : lastL p k (0 + 1) = U := by rw [← hU]; rfl
            exact ⟨0 + 1, s, c, put_self (put_self (Same.eq (by repeat (first | exact Same.hav | exact Same.refl | refine Same.put rfl ?_ | refine Same.havs rfl ?_))) rfl) (by rw [hLn]; rfl), ⟨by omega, by rw [hLn]; exact hs, hp⟩, by omega⟩
        · (apply wdp; exact rfl; (intro w hp; exact pv_lss rfl rfl); exact bool_eq (b := false) (decide_eq_false (by omega)))
          (repeat (first | ((apply wdp; exact rfl); (intro w hp; intros; (first | apply pv_move | exact pv_andF rfl)); (intros; exact fB rfl)) | (apply wdpF; exact rfl; exact rfl; exact rfl; exact rfl) | (apply wdpU; exact rfl; exact rfl; exact rfl)))
          refine wpd_nil ?_
          refine WP_cond_f rfl ?_
          have hp := hpw.drew
          have hs := hs.keep0 (Keeps.refl (M := [])).drew
          clear hpw hsl
          (repeat (first | (with_reducible first | apply WP_seq | apply thenQ_n | apply thenQ_exit | apply WP_exit) | ((with_reducible apply inBlk_same); exact rfl)))
          refine WP_draw mixed (by kernel_rfl) (fun w' => Hp w5.drew [] w' []) Hp.start.drew ?_
          (apply wdp; exact rfl; (intro w hp; exact pv_move); exact fI rfl)
          (apply wdp; exact rfl; (intro w hp; exact pv_gtr rfl rfl); exact bool_eq (b := false) (decide_eq_false (by omega)))
          (repeat (first | ((apply wdp; exact rfl); (intro w hp; intros; (first | apply pv_move | exact pv_andF rfl)); (intros; exact fB rfl)) | (apply wdpF; exact rfl; exact rfl; exact rfl; exact rfl) | (apply wdpU; exact rfl; exact rfl; exact rfl)))
          refine wpd_nil ?_
          refine WP_cond_f rfl ?_
          have hp := hp.drew
          have hs := hs.keep0 (Keeps.refl (M := [])).drew
          (repeat (first | (with_reducible first | apply WP_seq | apply WP_block | apply WP_region | apply wpl_nil | apply thenQ_n | apply WP_skip) | (apply wlp; apply pv_assign; exact fI rfl)))
          refine WP_loopS [4, 13, 77, 78, 79, 80, 81, 82, 83, 84, 85, 86, 87, 88, 89, 90, 91, 92, 93, 94, 95, 96, 97, 98, 99, 100, 101, 102, 103, 104, 105, 106, 107, 108, 109, 110] (fun (j : Nat) F => F.put 13 (.int .i64 (j : Int))) (fun j w' => j ≤ k ∧ SlAt w' 1 eI s U ∧ Hp w [] w' []) (fun j => k - j) 0 (put_self (Same.eq .refl) rfl) ⟨Nat.zero_le _, hs, hp⟩ ?_
          clear hp hs
          rintro u3 j w6 ⟨hjk, hs, hp⟩
          (repeat (first | (with_reducible first | apply WP_seq | apply WP_region | apply wpl_nil | apply thenQ_n) | (apply wlp; ((first | apply pv_move | apply pv_lss) <;> exact rfl); (first | exact fI rfl | exact fB rfl))))
          refine WP_cond_d rfl (fun h => ?_) (fun h => ?_)
          · have hjU : j < U.length := by omega
            obtain ⟨hi1, hi2, hi3⟩ := incr_at hinc hjU
            obtain ⟨b0, o0, hs0, hc0⟩ := SlAt_get hs hjU
            (repeat (with_reducible first | apply WP_seq | apply WP_block | apply thenQ_n | apply WP_skip))
            refine WP_draw mixed (by kernel_rfl) (fun w' => Hp w6 [] w' []) Hp.start.drew ?_
            have hcc := hc0
            by_cases hj0 : j = 0
            · have h0U : 0 < U.length := by omega
              subst hj0
              (apply wdp; exact rfl; (intro w hp; exact pv_move); exact fS rfl)
              (apply wdp; exact rfl; (intro w hp; exact pv_move); exact fI rfl)
              (apply wdp; exact rfl; (intro w hp; exact pf_index (i := 0) rfl rfl rfl hs0 h0U); exact fP rfl)
              (apply wdp; exact rfl; (intro w hp; exact pf_load rfl rfl (hp.old0 hc0)); exact fI rfl)
              (apply wdp; exact rfl; (intro w hp; exact pv_lss rfl rfl); exact bool_eq (b := false) (decide_eq_false (by omega)))
              (apply wdp; exact rfl; (intro w hp; exact pv_move); exact fB rfl)
              (apply wdpT; exact rfl; exact rfl; exact rfl; (intro w hp; exact pv_move); exact fS rfl)
              (apply wdpT; exact rfl; exact rfl; exact rfl; (intro w hp; exact pv_move); exact fI rfl)
              (apply wdpT; exact rfl; exact rfl; exact rfl; (intro w hp; exact pf_index (i := 0) rfl rfl rfl hs0 h0U); exact fP rfl)
              (apply wdpT; exact rfl; exact rfl; exact rfl; (intro w hp; exact pf_load rfl rfl (hp.old0 hc0)); exact fI rfl)
              (apply wdpT; exact rfl; exact rfl; exact rfl; (intro w hp; exact pv_move); exact fI rfl)
              (apply wdpT; exact rfl; exact rfl; exact rfl; (intro w hp; exact pv_gtr rfl rfl); exact bool_eq (b := false) (decide_eq_false (by omega)))
              (apply wdp; exact rfl; (intro w hp; exact pv_orF rfl rfl); exact fB rfl)
              (apply wdp; exact rfl; (intro w hp; exact pv_move); exact fB rfl)
              (apply wdpT; exact rfl; exact rfl; exact rfl; (intro w hp; exact pv_move); exact fI rfl)
              (apply wdpT; exact rfl; exact rfl; exact rfl; (intro w hp; exact pv_gtr rfl rfl); exact bool_eq (b := false) (decide_eq_false (by omega)))
              (repeat (first | ((apply wdp; exact rfl); (intro w hp; intros; (first | apply pv_move | exact pv_andF rfl | exact pv_orF rfl rfl)); (intros; exact fB rfl)) | ((apply wdpT; exact rfl; exact rfl; exact rfl); (intro w hp; (first | apply pv_move | exact pv_andF rfl | exact pv_orF rfl rfl)); (intros; exact fB rfl)) | (apply wdpF; exact rfl; exact rfl; exact rfl; exact rfl) | (apply wdpU; exact rfl; exact rfl; exact rfl)))
              refine wpd_nil ?_
              refine WP_cond_f rfl ?_
              have hp := hp.drew
              (repeat (first | (with_reducible first | apply WP_region | apply thenQ_n | apply inBlk_n | apply WP_skip) | (apply wlp; apply pv_move; exact fI rfl)))
              (apply wlp; exact pv_add rfl rfl; exact int_eq (i64_in (by omega) (by omega)))
              (repeat (first | (with_reducible first | apply wpl_nil | apply thenQ_n) | (apply wlp; apply pv_assign; exact fI rfl)))
              exact ⟨0 + 1, put_self (Same.eq (by repeat (first | exact Same.hav | exact Same.refl | refine Same.put rfl ?_ | refine Same.havs rfl ?_))) rfl, ⟨by omega, hs.keep0 (Keeps.refl (M := [])).drew, hp⟩, by omega⟩
            · obtain ⟨q, rfl⟩ : ∃ q, j = q + 1 := ⟨j - 1, by omega⟩
              have hqU : q < U.length := by omega
              obtain ⟨b1, o1, hs1, hc1⟩ := SlAt_get hs hqU
              obtain ⟨rfl, rfl⟩ : b1 = b0 ∧ o1 = o0 := by
                rw [hs0] at hs1
                cases hs1
                exact ⟨rfl, rfl⟩
              have hi3 := hi3 (by omega)
              rw [Nat.add_sub_cancel] at hi3
              (apply wdp; exact rfl; (intro w hp; exact pv_move); exact fS rfl)
              (apply wdp; exact rfl; (intro w hp; exact pv_move); exact fI rfl)
              (apply wdp; exact rfl; (intro w hp; exact pf_index rfl rfl rfl hs0 hjU); exact fP rfl)
              (apply wdp; exact rfl; (intro w hp; exact pf_load rfl rfl (hp.old0 hc0)); exact fI rfl)
              (apply wdp; exact rfl; (intro w hp; exact pv_lss rfl rfl); exact bool_eq (b := false) (decide_eq_false (by omega)))
              (apply wdp; exact rfl; (intro w hp; exact pv_move); exact fB rfl)
              (apply wdpT; exact rfl; exact rfl; exact rfl; (intro w hp; exact pv_move); exact fS rfl)
              (apply wdpT; exact rfl; exact rfl; exact rfl; (intro w hp; exact pv_move); exact fI rfl)
              (apply wdpT; exact rfl; exact rfl; exact rfl; (intro w hp; exact pf_index rfl rfl rfl hs0 hjU); exact fP rfl)
              (apply wdpT; exact rfl; exact rfl; exact rfl; (intro w hp; exact pf_load rfl rfl (hp.old0 hc0)); exact fI rfl)
              (apply wdpT; exact rfl; exact rfl; exact rfl; (intro w hp; exact pv_move); exact fI rfl)
              (apply wdpT; exact rfl; exact rfl; exact rfl; (intro w hp; exact pv_gtr rfl rfl); exact bool_eq (b := false) (decide_eq_false (by omega)))
              (apply wdp; exact rfl; (intro w hp; exact pv_orF rfl rfl); exact fB rfl)
              (apply wdp; exact rfl; (intro w hp; exact pv_move); exact fB rfl)
              (apply wdpT; exact rfl; exact rfl; exact rfl; (intro w hp; exact pv_move); exact fI rfl)
              (apply wdpT; exact rfl; exact rfl; exact rfl; (intro w hp; exact pv_gtr rfl rfl); exact bool_eq (b := true) (decide_eq_true (by omega)))
              (apply wdpT; exact rfl; exact rfl; exact rfl; (intro w hp; exact pv_move); exact fB rfl)
              (apply wdpT; exact rfl; exact rfl; exact rfl; (intro w hp; exact pv_move); exact fS rfl)
              (apply wdpT; exact rfl; exact rfl; exact rfl; (intro w hp; exact pv_move); exact fI rfl)
              (apply wdpT; exact rfl; exact rfl; exact rfl; (intro w hp; exact pf_index rfl rfl rfl hs0 hjU); exact fP rfl)
              (apply wdpT; exact rfl; exact rfl; exact rfl; (intro w hp; exact pf_load rfl rfl (hp.old0 hc0)); exact fI rfl)
              (apply wdpT; exact rfl; exact rfl; exact rfl; (intro w hp; exact pv_move); exact fS rfl)
              (apply wdpT; exact rfl; exact rfl; exact rfl; (intro w hp; exact pv_move); exact fI rfl)
              (apply wdpT; exact rfl; exact rfl; exact rfl; (intro w hp; exact pv_sub rfl rfl); exact int_eq (b := ((q : Nat) : Int)) (by rw [i64_in (by omega) (by omega)]; omega))
              (apply wdpT; exact rfl; exact rfl; exact rfl; (intro w hp; exact pf_index rfl rfl rfl hs0 hqU); exact fP rfl)
              (apply wdpT; exact rfl; exact rfl; exact rfl; (intro w hp; exact pf_load rfl rfl (hp.old0 hc1)); exact fI rfl)
              (apply wdpT; exact rfl; exact rfl; exact rfl; (intro w hp; exact pv_leq rfl rfl); exact bool_eq (b := false) (decide_eq_false (by omega)))
              (repeat (first | ((apply wdp; exact rfl); (intro w hp; intros; (first | exact pv_andT rfl rfl | exact pv_orF rfl rfl)); (intros; exact fB rfl)) | ((apply wdpT; exact rfl; exact rfl; exact rfl); (intro w hp; (first | exact pv_andT rfl rfl | exact pv_orF rfl rfl)); (intros; exact fB rfl)) | (apply wdpF; exact rfl; exact rfl; exact rfl; exact rfl) | (apply wdpU; exact rfl; exact rfl; exact rfl)))
              refine wpd_nil ?_
              refine WP_cond_f rfl ?_
              have hp := hp.drew
              (repeat (first | (with_reducible first | apply WP_region | apply thenQ_n | apply inBlk_n | apply WP_skip) | (apply wlp; apply pv_move; exact fI rfl)))
              (apply wlp; exact pv_add rfl rfl; exact int_eq (i64_in (by omega) (by omega)))
              (repeat (first | (with_reducible first | apply wpl_nil | apply thenQ_n) | (apply wlp; apply pv_assign; exact fI rfl)))
              exact ⟨q + 1 + 1, put_self (Same.eq (by repeat (first | exact Same.hav | exact Same.refl | refine Same.put rfl ?_ | refine Same.havs rfl ?_))) rfl, ⟨by omega, hs.keep0 (Keeps.refl (M := [])).drew, hp⟩, by omega⟩
          · (repeat (first | (with_reducible first | apply WP_region | apply wpl_nil | apply thenQ_n | apply inBlk_n | apply thenQ_exit | apply WP_exit) | ((with_reducible apply inBlk_same); exact rfl) | (apply wlp; (first | apply pv_move | apply pv_assign); (first | exact fI rfl | exact fS rfl))))
            (apply wlp; exact pv_add rfl rfl; exact int_eq (i64_in (by omega) (by omega)))
            (repeat (first | (with_reducible first | apply wpl_nil | apply thenQ_n) | (apply wlp; apply pv_assign; exact fI rfl)))
            have hLn : lastL p k (0 + 1) = U := by rw [← hU]; rfl
            exact ⟨0 + 1, s, c, put_self (put_self (Same.eq (by repeat (first | exact Same.hav | exact Same.refl | refine Same.put rfl ?_ | refine Same.havs rfl ?_))) rfl) (by rw [hLn]; rfl), ⟨by omega, by rw [hLn]; exact hs, hp⟩, by omega⟩
  · obtain ⟨hB, hZ⟩ := unZ_out (by omega) hlt
    rw [hB, hZ]
    obtain rfl : n = ch p k := by omega
    (repeat (first | (with_reducible first | apply WP_seq | apply WP_region | apply wpl_nil | apply thenQ_n) | (apply wlp; ((first | apply pv_move | apply pv_assign | apply pv_not | apply pv_extract) <;> exact rfl); (first | exact fB rfl | exact fS rfl | exact fU rfl))))
    refine WP_cond_t rfl ?_
    (repeat (first | (with_reducible first | apply WP_seq | apply WP_region | apply thenQ_n | apply thenQ_exit | apply WP_exit) | ((with_reducible apply inBlk_same); exact rfl) | ((with_reducible apply inBlk_other); exact rfl) | (apply wlp; (intros; apply pv_move); (intros; (first | exact fI rfl | exact fB rfl))) | ((apply wlpT; exact rfl; exact rfl); (apply pv_move); (intros; (first | exact fI rfl | exact fB rfl))) | (apply wlpF; exact rfl; exact rfl; exact rfl) | (apply wlpU; exact rfl; exact rfl)))
    (apply wlsT; exact rfl; exact rfl; exact st_call rfl ent12 rfl (c12 (p : Int) (k : Int) _ (by omega)); rintro _ w5 ⟨rfl, hk⟩; have hp := hp.call hk)
    rw [chZ_nat (by omega)]
    ((apply wlpT; exact rfl; exact rfl); (apply pv_move); (intros; exact fI rfl))
    (apply wlsT; exact rfl; exact rfl; exact st_call rfl ent13 rfl (c13 (ch p k : Int) _ (by omega)); rintro _ w6 ⟨rfl, hk⟩; have hp := hp.call hk)
    rw [Int.toNat_natCast]
    (apply wlpT; exact rfl; exact rfl; exact pv_seql rfl rfl; exact bool_eq (b := true) (decide_eq_true rfl))
    (repeat (first | (with_reducible first | apply wpl_nil | apply thenQ_n | apply WP_ret) | (apply wlp; (intros; (first | apply pv_assign | exact pv_andT rfl rfl)); (intros; exact fB rfl)) | (apply wlpF; exact rfl; exact rfl; exact rfl) | (apply wlpU; exact rfl; exact rfl)))
    exact ret_tmp rfl rfl ⟨_, rfl, rfl, hp.keeps⟩
end Go.Proofs.YteklkjnhefnimaaDoor
