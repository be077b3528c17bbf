/- odds: isSet, Rank; conditions: the list lies in memory. -/
import Derived.Test.YteklkjnhefnimaaDoorEb
namespace Go.Proofs.YteklkjnhefnimaaDoor
open Go.Eng Go.Dig

/-- plain: is the element at j as it should be? -/
def okAt (pool : Int) (l : List Int) (j : Nat) : Bool := decide (1 ≤ l.getD j 0) && decide (l.getD j 0 ≤ pool) && (decide (j = 0) || decide (l.getD (j - 1) 0 < l.getD j 0))
def isU (pool : Int) (l : List Int) (i : Nat) : Bool := (List.range i).all (okAt pool l)
def setB (pool : Int) (l : List Int) : Bool := decide (0 ≤ pool) && decide (pool ≤ 60) && isU pool l l.length
theorem isU_succ (pool : Int) (l : List Int) (i : Nat) : isU pool l (i + 1) = (isU pool l i && okAt pool l i) := by
  simp [isU, List.range_succ]
theorem isU_at {pool : Int} {l : List Int} {i j : Nat} (h : isU pool l i = true) (hj : j < i) : okAt pool l j = true := List.all_eq_true.1 h j (by simpa using hj)
theorem isU_mono {pool : Int} {l : List Int} {i j : Nat} (h : isU pool l i = false) (hj : i ≤ j) : isU pool l j = false := by
  cases h2 : isU pool l j
  · rfl
  · have : isU pool l i = true := List.all_eq_true.2 fun x hx => isU_at h2 (by simp at hx; omega)
    rw [this] at h
    cases h
theorem getD_at {l : List Int} {i : Nat} (h : i < l.length) : l.getD i 0 = l[i] := by simp [List.getD_eq_getElem?_getD, List.getElem?_eq_getElem h]
/-- the sum of the numbers of subsets for the values b + 1 to b + t -/
def innS (pool b k : Int) : Nat → Nat
  | 0 => 0
  | t + 1 => innS pool b k t + chZ (pool - (b + (t + 1 : Nat))) k
/-- the rank by the first i elements -/
def rkN (pool : Int) (l : List Int) : Nat → Nat
  | 0 => 0
  | i + 1 => rkN pool l i + innS pool (if i = 0 then 0 else l.getD (i - 1) 0) ((l.length : Int) - i - 1) (l.getD i 0 - (if i = 0 then 0 else l.getD (i - 1) 0) - 1).toNat
theorem chZ_le {n k : Int} (h : n ≤ 60) : chZ n k ≤ 2 ^ 60 := by
  unfold chZ
  split
  · exact Nat.zero_le _
  · exact Nat.le_trans (ch_le_pow _ _) (Nat.pow_le_pow_right (by decide) (by omega))
theorem innS_le {pool b k : Int} (hp : pool ≤ 60) (hb : 0 ≤ b) : ∀ t, innS pool b k t ≤ t * 2 ^ 60
  | 0 => by simp [innS]
  | t + 1 => by
    have h1 := innS_le (k := k) hp hb t
    have h2 := chZ_le (n := pool - (b + (t + 1 : Nat))) (k := k) (by omega)
    rw [innS, Nat.add_mul, Nat.one_mul]
    omega
/-- a bound of a rank so far -/
def RB (r : Nat) (b : Int) : Prop := r ≤ b.toNat * 2 ^ 60
theorem RB.zero (b : Int) : RB 0 b := Nat.zero_le _
theorem RB.fit {r : Nat} {pool b k : Int} {t : Nat} (h : RB r b) (hp : pool ≤ 60) (hb : 0 ≤ b) (ht : b + t + 1 ≤ pool) : Fit (r + innS pool b k t) := by
  have hin := innS_le (k := k) hp hb t
  unfold RB at h
  refine Fit.of (k := 67) ?_ (by decide)
  have e1 : b.toNat * 2 ^ 60 + t * 2 ^ 60 = (b.toNat + t) * 2 ^ 60 := (Nat.add_mul _ _ _).symm
  have e2 : (b.toNat + t) * 2 ^ 60 ≤ 60 * 2 ^ 60 := Nat.mul_le_mul_right _ (by omega)
  have e3 : 60 * 2 ^ 60 < 2 ^ 67 := by decide
  omega
theorem RB.next {r : Nat} {pool b k li : Int} {t : Nat} (h : RB r b) (hp : pool ≤ 60) (hb : 0 ≤ b) (ht : b + t + 1 = li) : RB (r + innS pool b k t) li := by
  have hin := innS_le (k := k) hp hb t
  unfold RB at *
  have e1 : b.toNat * 2 ^ 60 + t * 2 ^ 60 = (b.toNat + t) * 2 ^ 60 := (Nat.add_mul _ _ _).symm
  have e2 : (b.toNat + t) * 2 ^ 60 ≤ li.toNat * 2 ^ 60 := Nat.mul_le_mul_right _ (by omega)
  omega

attribute [local irreducible] PV StepF wpl wpd WP Ret
attribute [local irreducible] Fit RB

theorem c52 (pool : Int) (l : List Int) (s : Option Addr) (c : Nat) (w : World) (hs : SlAt w 1 eI s l) (hl : l.length ≤ 9223372036854775806) :
    Ret Tryd.prog 52 [.int .i64 pool, .slice s l.length c] w (fun v w' => v = .bool (setB pool l) ∧ Keeps [] w w') := by
  refine Ret.of_WP Tryd.func52 rfl Tryd.ntmps52 rfl ?_
  have hp := Hp.start (M := []) (w := w)
  (repeat (first | (with_reducible first | apply WP_seq | apply WP_region | apply wpl_nil | apply thenQ_n) | ((first | apply wlp | (apply wlg; exact rfl; exact rfl)); (intros; ((first | apply pv_move | apply pv_assign | exact pv_or rfl rfl rfl | apply pv_lss | apply pv_gtr) <;> (first | exact rfl | exact ev_sel rfl (by assumption)))); (intros; (first | exact fI rfl | exact fB rfl)))))
  refine WP_cond rfl (fun h => ?_) (fun h => ?_)
  · have hz : setB pool l = false := by
      simp at h
      unfold setB
      rcases h with h | h
      · rw [decide_eq_false (show ¬ 0 ≤ pool by omega)]; rfl
      · rw [decide_eq_false (show ¬ pool ≤ 60 by omega)]; simp
    (repeat (first | (with_reducible first | apply WP_seq | apply WP_region | apply wpl_nil | apply thenQ_n | apply thenQ_ret | apply WP_ret) | (apply wlp; apply pv_assign; exact fB rfl)))
    exact ret_tmp rfl rfl ⟨_, rfl, by rw [hz]; rfl, hp.keeps⟩
  · have hpool : 0 ≤ pool ∧ pool ≤ 60 := by simp at h; omega
    have hB : setB pool l = isU pool l l.length := by
      unfold setB
      rw [decide_eq_true hpool.1, decide_eq_true hpool.2]
      rfl
    clear h
    (repeat (with_reducible first | apply WP_seq | apply WP_region | apply thenQ_n | apply WP_skip))
    (apply wls; exact salloc2 hp (zeroTy_ok rfl); rintro _ w1 ⟨wb, rfl, hp⟩)
    (repeat (first | (with_reducible first | apply WP_seq | apply WP_block | apply WP_region | apply wpl_nil | apply thenQ_n) | (apply wlp; ((first | apply pv_move | (apply pf_len; exact rfl)) <;> exact rfl); (first | exact fI rfl | exact fS rfl))))
    refine WP_loop3 [6, 7, 16, 17, 18, 19, 20, 21, 22, 23, 24, 25, 26, 27, 28, 29, 30, 31, 32, 33, 34, 35, 36, 37, 38, 39, 40, 41, 42, 43, 44, 45, 46, 47, 48, 49] (fun (i : Nat) (_ _ : Bool) F => F.put 16 (.int .i64 (i : Int)))
      (fun i x y w' => i ≤ l.length ∧ (!x && !y) = isU pool l i ∧ Hp w [] w' [blk wb 2 (frOf [.bool x, .bool y]) 102]) (fun i _ _ => l.length - i) 0 false false (put_self (Same.eq .refl) rfl) ⟨Nat.zero_le _, rfl, hp⟩ ?_
    clear hp
    rintro u i x y w2 ⟨hi, hxy, hp⟩
    (repeat (first | (with_reducible first | apply WP_seq | apply WP_region | apply wpl_nil | apply thenQ_n) | (apply wlp; (apply pv_lss <;> exact rfl); exact fB rfl)))
    refine WP_cond_d rfl (fun h2 => ?_) (fun h2 => ?_)
    · have hlt : i < l.length := by omega
      obtain ⟨b0, o0, hs0, hc0⟩ := hs.base (by omega)
      have hci := hc0 i _ (List.getElem?_eq_getElem hlt) 0 _ rfl
      have hgi := getD_at hlt
      generalize l[i] = li at hci hgi
      (repeat (first | (with_reducible first | apply WP_seq | apply WP_block | apply WP_region | apply wpl_nil | apply thenQ_n | apply WP_skip) | (apply wlp; ((first | apply pv_move | apply pv_assign | (apply pf_load; exact rfl) | (apply pf_index; exact rfl) | (apply pf_index_a; exact rfl)) <;> (first | exact rfl | assumption | exact hp.old0 (by assumption))); (first | exact fI rfl | exact fP rfl))))
      (apply wlp; exact pf_index_a (i := 0) rfl rfl rfl (by decide); exact fP rfl)
      (repeat ((first | apply wlp | (apply wlg; exact rfl; exact rfl)); (intros; ((first | apply pv_move | (apply pf_load; exact rfl) | exact pv_or rfl rfl rfl | apply pv_lss | apply pv_gtr | (apply pf_index_a; exact rfl)) <;> (first | exact rfl | exact ev_sel rfl (by assumption) | exact hp.cell 0 rfl rfl))); (intros; (first | exact fI rfl | exact fB rfl))))
      (apply wlp; exact pf_index_a (i := 0) rfl rfl rfl (by decide); exact fP rfl)
      (repeat (first | (with_reducible first | apply WP_region | apply wpl_nil | apply thenQ_n) | (apply wlp; ((apply pf_index_a; exact rfl) <;> exact rfl); skip) | (apply wls0; exact sstore1 hp 0 rfl rfl rfl rfl (sizeTy_ok rfl) rfl; rintro _ w ⟨rfl, hp⟩)))
      (apply wlp; exact pf_index_a (i := 1) rfl rfl rfl (by decide); exact fP rfl)
      have hsx : isU pool l (i + 1) = (isU pool l i && okAt pool l i) := isU_succ pool l i
      unfold okAt at hsx
      rw [hgi, ← hxy] at hsx
      (apply wlp; ((apply pf_load; exact rfl) <;> (first | exact rfl | exact hp.cell 0 rfl rfl)); exact fB rfl)
      cases y with
      | true =>
        (repeat (first | (apply wlp; (intros; ((first | apply pv_move | exact pv_orT rfl | (apply pf_index_a; exact rfl)) <;> exact rfl)); (intros; exact fB rfl)) | (apply wlpF; exact rfl; exact rfl; exact rfl) | (apply wlpU; exact rfl; exact rfl)))
        (apply wlp; exact pf_index_a (i := 1) rfl rfl rfl (by decide); exact fP rfl)
        (repeat (first | (with_reducible first | apply WP_region | apply wpl_nil | apply thenQ_n | apply inBlk_n) | (apply wls0; exact sstore1 hp 0 rfl rfl rfl rfl (sizeTy_ok rfl) rfl; rintro _ w ⟨rfl, hp⟩)))
        (apply wlp; exact pv_add rfl rfl; exact int_eq (i64_in (by omega) (by omega)))
        (repeat (first | (with_reducible first | apply wpl_nil | apply thenQ_n) | (apply wlp; apply pv_move; exact fI rfl)))
        refine ⟨i + 1, _, _, put_self (Same.eq (by repeat (first | exact Same.hav | exact Same.refl | refine Same.put rfl ?_ | refine Same.havs rfl ?_))) rfl, ⟨by omega, ?_, hp⟩, by omega⟩
        rw [hsx]
        simp
      | false =>
        by_cases hi0 : i = 0
        · subst hi0
          (apply wlp; apply pv_move; exact fB rfl)
          ((apply wlpT; exact rfl; exact rfl); (apply pv_move); (intros; exact fI rfl))
          (apply wlpT; exact rfl; exact rfl; (exact pv_gtr rfl rfl); exact bool_eq (b := false) (decide_eq_false (by omega)))
          (repeat (first | (apply wlp; (intros; ((first | apply pv_move | exact pv_andF rfl | exact pv_orF rfl rfl | (apply pf_index_a; exact rfl)) <;> exact rfl)); (intros; exact fB rfl)) | ((apply wlpT; exact rfl; exact rfl); (((first | apply pv_move | exact pv_andF rfl | exact pv_orF rfl rfl | (apply pf_index_a; exact rfl)) <;> exact rfl)); (intros; exact fB rfl)) | (apply wlpF; exact rfl; exact rfl; exact rfl) | (apply wlpU; exact rfl; exact rfl)))
          (apply wlp; exact pf_index_a (i := 1) rfl rfl rfl (by decide); exact fP rfl)
          (repeat (first | (with_reducible first | apply WP_region | apply wpl_nil | apply thenQ_n | apply inBlk_n) | (apply wls0; exact sstore1 hp 0 rfl rfl rfl rfl (sizeTy_ok rfl) rfl; rintro _ w ⟨rfl, hp⟩)))
          (apply wlp; exact pv_add rfl rfl; exact int_eq (i64_in (by omega) (by omega)))
          (repeat (first | (with_reducible first | apply wpl_nil | apply thenQ_n) | (apply wlp; apply pv_move; exact fI rfl)))
          refine ⟨1, _, _, put_self (Same.eq (by repeat (first | exact Same.hav | exact Same.refl | refine Same.put rfl ?_ | refine Same.havs rfl ?_))) rfl, ⟨by omega, ?_, hp⟩, by omega⟩
          rw [hsx]
          rw [Bool.eq_iff_iff]
          cases x <;> simp <;> omega
        · obtain ⟨j, rfl⟩ : ∃ j, i = j + 1 := ⟨i - 1, by omega⟩
          have hltj : j < l.length := by omega
          have hcj := hc0 j _ (List.getElem?_eq_getElem hltj) 0 _ rfl
          have hgj := getD_at hltj
          generalize l[j] = lj at hcj hgj
          rw [Nat.add_sub_cancel, hgj] at hsx
          (apply wlp; apply pv_move; exact fB rfl)
          ((apply wlpT; exact rfl; exact rfl); (apply pv_move); (intros; exact fI rfl))
          (apply wlpT; exact rfl; exact rfl; (exact pv_gtr rfl rfl); exact bool_eq (b := true) (decide_eq_true (by omega)))
          (repeat (first | ((apply wlpT; exact rfl; exact rfl); (apply pv_move); (intros; (first | exact fI rfl | exact fB rfl | exact fS rfl))) | (apply wlpF; exact rfl; exact rfl; exact rfl) | (apply wlpU; exact rfl; exact rfl)))
          (apply wlpT; exact rfl; exact rfl; (exact pv_sub rfl rfl); exact int_eq (b := ((j : Nat) : Int)) (by rw [i64_in (by omega) (by omega)]; omega))
          (repeat (first | (apply wlp; (intros; ((first | (apply pf_load; exact rfl) | exact pv_andT rfl rfl | exact pv_orF rfl rfl | apply pv_leq | (apply pf_index; exact rfl) | (apply pf_index_a; exact rfl)) <;> (first | exact rfl | assumption | exact hp.old0 (by assumption)))); (intros; (first | exact fI rfl | exact fB rfl | exact fP rfl))) | ((apply wlpT; exact rfl; exact rfl); (((first | (apply pf_load; exact rfl) | exact pv_andT rfl rfl | exact pv_orF rfl rfl | apply pv_leq | (apply pf_index; exact rfl) | (apply pf_index_a; exact rfl)) <;> (first | exact rfl | assumption | exact hp.old0 (by assumption)))); (intros; (first | exact fI rfl | exact fB rfl | exact fP rfl))) | (apply wlpF; exact rfl; exact rfl; exact rfl) | (apply wlpU; exact rfl; exact rfl)))
          (apply wlp; exact pf_index_a (i := 1) rfl rfl rfl (by decide); exact fP rfl)
          (repeat (first | (with_reducible first | apply WP_region | apply wpl_nil | apply thenQ_n | apply inBlk_n) | (apply wls0; exact sstore1 hp 0 rfl rfl rfl rfl (sizeTy_ok rfl) rfl; rintro _ w ⟨rfl, hp⟩)))
          (apply wlp; exact pv_add rfl rfl; exact int_eq (i64_in (by omega) (by omega)))
          (repeat (first | (with_reducible first | apply wpl_nil | apply thenQ_n) | (apply wlp; apply pv_move; exact fI rfl)))
          refine ⟨j + 1 + 1, _, _, put_self (Same.eq (by repeat (first | exact Same.hav | exact Same.refl | refine Same.put rfl ?_ | refine Same.havs rfl ?_))) rfl, ⟨by omega, ?_, hp⟩, by omega⟩
          rw [hsx]
          rw [Bool.eq_iff_iff]
          cases x <;> simp <;> omega
    · obtain rfl : i = l.length := by omega
      rw [hB, ← hxy]
      (repeat (first | (with_reducible first | apply WP_seq | apply WP_region | apply thenQ_n | apply thenQ_exit | apply WP_exit) | ((with_reducible apply inBlk_same); exact rfl) | (apply wlp; ((first | (apply pf_loadb; exact rfl) | apply pf_build_a) <;> (first | exact rfl | exact hp.agg_blk 0 rfl rfl)); exact fA2 rfl)))
      (apply wlp; exact pv_eq102 rfl rfl; exact fB rfl)
      (repeat (first | (with_reducible first | apply wpl_nil | apply thenQ_n | apply WP_ret) | (apply wlp; apply pv_assign; exact fB rfl)))
      exact ret_tmp rfl rfl ⟨_, rfl, rfl, hp.keeps⟩

theorem c22 (pool : Int) (l : List Int) (s : Option Addr) (c : Nat) (w : World) (hs : SlAt w 1 eI s l) (hl : l.length ≤ 9223372036854775806) :
    Ret Tryd.prog 22 [.int .i64 pool, .slice s l.length c] w (fun v w' => v = .tuple #[.string (ofN (if setB pool l = true then rkN pool l l.length else 0)), .bool (setB pool l)] ∧ Keeps [] w w') := by
  refine Ret.of_WP Tryd.func22 rfl Tryd.ntmps22 rfl ?_
  have hp := Hp.start (M := []) (w := w)
  (repeat (first | (with_reducible first | apply WP_seq | apply WP_region | apply wpl_nil | apply thenQ_n) | (apply wlp; (first | apply pv_move | apply pv_assign); (first | exact fI rfl | exact fB rfl | exact fS rfl | exact fT rfl))))
  (apply wls; exact st_call rfl ent52 rfl (c52 pool l s c _ hs hl))
  rintro _ w1 ⟨rfl, hk⟩
  have hp := hp.call hk
  cases hB : setB pool l with
  | false =>
    (repeat (first | (with_reducible first | apply wpl_nil | apply thenQ_n) | (apply wlp; (apply pv_not <;> exact rfl); exact fB rfl)))
    refine WP_cond_t rfl ?_
    (repeat (first | (with_reducible first | apply WP_seq | apply WP_region | apply wpl_nil | apply thenQ_n | apply thenQ_ret | apply WP_ret) | (apply wlp; apply pv_assign; (first | exact fB rfl | exact fT rfl))))
    exact ret_tmp2 rfl rfl rfl ⟨_, rfl, rfl, hp.keeps⟩
  | true =>
    have hpool : 0 ≤ pool ∧ pool ≤ 60 ∧ isU pool l l.length = true := by
      unfold setB at hB
      simpa [and_assoc] using hB
    (repeat (first | (with_reducible first | apply wpl_nil | apply thenQ_n) | (apply wlp; (apply pv_not <;> exact rfl); exact fB rfl)))
    refine WP_cond_f rfl ?_
    (repeat (with_reducible first | apply WP_seq | apply WP_region | apply thenQ_n | apply WP_skip))
    (apply wls; exact st_call rfl ent13 rfl (c13 0 _ (by decide)))
    rintro _ w2 ⟨rfl, hk⟩
    have hp := hp.call hk
    (repeat (first | (with_reducible first | apply WP_seq | apply WP_block | apply WP_region | apply wpl_nil | apply thenQ_n) | (apply wlp; ((first | apply pv_move | apply pv_assign | (apply pf_len; exact rfl)) <;> exact rfl); (first | exact fI rfl | exact fS rfl | exact fT rfl))))
    refine WP_loopS [6, 7, 8, 9, 10, 18, 19, 20, 21, 22, 23, 24, 25, 26, 27, 28, 29, 30, 31, 32, 33, 34, 35, 36, 37, 38, 39, 40, 41, 42] (fun (i : Nat) F => ((F.put 18 (.int .i64 (i : Int))).put 6 (.string (ofN (rkN pool l i)))).put 7 (.int .i64 (if i = 0 then 0 else l.getD (i - 1) 0)))
      (fun i w' => i ≤ l.length ∧ RB (rkN pool l i) (if i = 0 then 0 else l.getD (i - 1) 0) ∧ Hp w [] w' []) (fun i => l.length - i) 0 (put_self (put_self (put_self (Same.eq .refl) rfl) rfl) rfl) ⟨Nat.zero_le _, RB.zero _, hp⟩ ?_
    clear hp
    rintro u i w3 ⟨hi, hrk, hp⟩
    (repeat (first | (with_reducible first | apply WP_seq | apply WP_region | apply wpl_nil | apply thenQ_n) | (apply wlp; (apply pv_lss <;> exact rfl); exact fB rfl)))
    refine WP_cond_d rfl (fun h2 => ?_) (fun h2 => ?_)
    · have hlt : i < l.length := by omega
      obtain ⟨b0, o0, hs0, hc0⟩ := hs.base (by omega)
      have hci := hc0 i _ (List.getElem?_eq_getElem hlt) 0 _ rfl
      have hgi := getD_at hlt
      have hsx : rkN pool l (i + 1) = rkN pool l i + innS pool (if i = 0 then 0 else l.getD (i - 1) 0) ((l.length : Int) - i - 1) (l.getD i 0 - (if i = 0 then 0 else l.getD (i - 1) 0) - 1).toNat := rfl
      have hok := isU_at hpool.2.2 hlt
      have hprev : 0 ≤ (if i = 0 then 0 else l.getD (i - 1) 0) ∧ (if i = 0 then 0 else l.getD (i - 1) 0) < l.getD i 0 ∧ l.getD i 0 ≤ pool := by
        unfold okAt at hok
        by_cases hi0 : i = 0
        · subst hi0
          simp at hok ⊢
          omega
        · have hok2 := isU_at hpool.2.2 (j := i - 1) (by omega)
          unfold okAt at hok2
          simp [hi0] at hok hok2 ⊢
          omega
      rw [hgi] at hprev
      rw [hgi] at hsx
      generalize (if i = 0 then 0 else l.getD (i - 1) 0) = b at *
      have hgi2 : (if i + 1 = 0 then 0 else l.getD (i + 1 - 1) 0) = l[i] := by simpa using hgi
      generalize l[i] = li at *
      obtain ⟨h0b, hbl, hlp⟩ := hprev
      (repeat (first | (with_reducible first | apply WP_seq | apply WP_block | apply WP_region | apply wpl_nil | apply thenQ_n | apply WP_skip) | (apply wlp; ((first | apply pv_move | apply pv_assign | (apply pf_load; exact rfl) | (apply pf_index; exact rfl)) <;> (first | exact rfl | assumption | exact hp.old0 (by assumption))); (first | exact fI rfl | exact fP rfl))))
      (apply wlp; exact pv_add rfl rfl; exact int_eq (i64_in (by omega) (by omega)))
      (repeat (first | (with_reducible first | apply WP_block | apply wpl_nil | apply thenQ_n) | (apply wlp; apply pv_assign; exact fI rfl)))
      refine WP_loopS [6, 10, 25, 26, 27, 28, 29, 30, 31, 32, 33, 34, 35, 36, 37, 38, 39, 40] (fun (t : Nat) F => (F.put 6 (.string (ofN (rkN pool l i + innS pool b ((l.length : Int) - i - 1) t)))).put 10 (.int .i64 (b + 1 + t)))
        (fun t w' => b + t + 1 ≤ li ∧ Hp w [] w' []) (fun t => (li - b).toNat - t) 0 (put_self (put_self (Same.eq .refl) rfl) (int_eq (by omega))) ⟨by omega, hp⟩ ?_
      clear hp
      rintro u2 t w4 ⟨ht, hp⟩
      (repeat (first | (with_reducible first | apply WP_seq | apply WP_region | apply wpl_nil | apply thenQ_n) | (apply wlp; ((first | apply pv_move | apply pv_lss) <;> exact rfl); (first | exact fI rfl | exact fB rfl))))
      refine WP_cond_d rfl (fun h3 => ?_) (fun h3 => ?_)
      · have hfit : Fit (rkN pool l i + innS pool b ((l.length : Int) - i - 1) t) := hrk.fit hpool.2.1 h0b (by omega)
        have hfit2 : Fit (chZ (pool - (b + 1 + t)) ((l.length : Int) - i - 1)) := Fit.of (k := 61) (Nat.lt_of_le_of_lt (chZ_le (by omega)) (by decide)) (by decide)
        have hstep : innS pool b ((l.length : Int) - i - 1) (t + 1) = innS pool b ((l.length : Int) - i - 1) t + chZ (pool - (b + 1 + t)) ((l.length : Int) - i - 1) := by
          rw [innS]
          congr 2
          omega
        (repeat (first | (with_reducible first | apply WP_seq | apply WP_block | apply WP_region | apply thenQ_n | apply WP_skip) | (apply wlp; apply pv_move; (first | exact fI rfl | exact fT rfl))))
        (apply wlp; exact pv_sub rfl rfl; exact int_eq (i64_in (by omega) (by omega)))
        (repeat (apply wlp; ((first | apply pv_move | (apply pf_len; exact rfl)) <;> exact rfl); (first | exact fI rfl | exact fS rfl)))
        (apply wlp; exact pv_sub rfl rfl; exact int_eq (i64_in (by omega) (by omega)))
        (apply wlp; exact pv_sub rfl rfl; exact int_eq (i64_in (by omega) (by omega)))
        (apply wls; exact st_call rfl ent12 rfl (c12 (pool - (b + 1 + t)) ((l.length : Int) - i - 1) _ (by omega)))
        rintro _ w5 ⟨rfl, hk⟩
        have hp := hp.call hk
        skip
        (apply wls; exact st_call rfl ent17 rfl (c17 _ _ _ hfit hfit2))
        rintro _ w6 ⟨rfl, hk⟩
        have hp := hp.call hk
        rw [Nat.add_assoc, ← hstep]
        (repeat (first | (with_reducible first | apply WP_region | apply wpl_nil | apply thenQ_n | apply inBlk_n) | (apply wlp; (first | apply pv_move | apply pv_assign); (first | exact fI rfl | exact fT rfl))))
        (apply wlp; exact pv_add rfl rfl; exact int_eq (i64_in (by omega) (by omega)))
        (repeat (first | (with_reducible first | apply wpl_nil | apply thenQ_n) | (apply wlp; apply pv_assign; exact fI rfl)))
        exact ⟨t + 1, put_self (put_self (Same.eq (by repeat (first | exact Same.hav | exact Same.refl | refine Same.put rfl ?_ | refine Same.havs rfl ?_))) rfl) (int_eq (by omega)), ⟨by omega, hp⟩, by omega⟩
      · have ht2 : t = (li - b - 1).toNat := by omega
        rw [ht2, ← hsx]
        (repeat (first | (with_reducible first | apply WP_region | apply wpl_nil | apply thenQ_n | apply inBlk_n | apply thenQ_exit | apply WP_exit) | ((with_reducible apply inBlk_same); exact rfl) | (apply wlp; (first | apply pv_move | apply pv_assign); exact fI rfl)))
        (apply wlp; exact pv_add rfl rfl; exact int_eq (i64_in (by omega) (by omega)))
        (repeat (first | (with_reducible first | apply wpl_nil | apply thenQ_n) | (apply wlp; apply pv_move; exact fI rfl)))
        refine ⟨i + 1, put_self (put_self (put_self (Same.eq (by repeat (first | exact Same.hav | exact Same.refl | refine Same.put rfl ?_ | refine Same.havs rfl ?_))) rfl) rfl) (int_eq hgi2.symm), ⟨by omega, ?_, hp⟩, by omega⟩
        rw [hgi2, hsx, ← ht2]
        exact hrk.next hpool.2.1 h0b (by omega)
    · obtain rfl : i = l.length := by omega
      (repeat (first | (with_reducible first | apply WP_seq | apply WP_region | apply wpl_nil | apply thenQ_n | apply thenQ_exit | apply WP_ret | apply WP_exit) | ((with_reducible apply inBlk_same); exact rfl) | (apply wlp; (first | apply pv_move | apply pv_assign); (first | exact fB rfl | exact fT rfl))))
      exact ret_tmp2 rfl rfl rfl ⟨_, rfl, rfl, hp.keeps⟩
end Go.Proofs.YteklkjnhefnimaaDoor
