/- odds: plain, Chance; sortesref18: Ints; conditions: the tiers lie in memory. -/
import Derived.Test.YteklkjnhefnimaaDoorEg
namespace Go.Proofs.YteklkjnhefnimaaDoor
open Go.Eng Go.Dig

/-- the rules of a lottery as they are held -/
def dw (nm : ByteArray) (kind round price pool pick : Int) (s : Option Addr) (m c : Nat) : List Value := [.string nm, .int .i64 kind, .int .i64 round, .int .i64 price, .int .i64 pool, .int .i64 pick, .slice s m c, .bool false, .slice none 0 0, .int .i64 0, .int .i64 0, .slice none 0 0, .slice none 0 0]
def eT (t : Int × Int) : List Value := [.int .i64 t.1, .int .i64 t.2]
def okT (t : Int × Int) : Bool := decide (0 ≤ t.2) && decide (t.2 ≤ 100)
def sumT : List (Int × Int) → Int
  | [] => 0
  | t :: l => t.2 + sumT l
theorem sumT_app (l m : List (Int × Int)) : sumT (l ++ m) = sumT l + sumT m := by
  induction l with
  | nil => simp [sumT]
  | cons t l ih => simp only [List.cons_append, sumT, ih]; omega
theorem sumT_bd {l : List (Int × Int)} (h : l.all okT = true) : 0 ≤ sumT l ∧ sumT l ≤ 100 * l.length := by
  induction l with
  | nil => simp [sumT]
  | cons t l ih =>
    simp only [List.all_cons, Bool.and_eq_true, okT, decide_eq_true_eq] at h
    have := ih h.2
    simp only [sumT, List.length_cons]
    omega
/-- plain: is a draw a plain lottery? -/
def plB (kind pool pick : Int) (l : List (Int × Int)) : Bool := decide (kind = 1 ∧ 0 ≤ pool ∧ pool ≤ 60 ∧ 0 ≤ pick ∧ pick ≤ pool) && (decide (l.length ≤ 12) && (l.all okT && decide (sumT l ≤ 100)))

attribute [local irreducible] PV StepF wpl wpd WP Ret
attribute [local irreducible] Fit RB

theorem c57 (nm : ByteArray) (kind round price pool pick : Int) (s : Option Addr) (c : Nat) (l : List (Int × Int)) (w : World) (hs : SlAt w 2 eT s l) (hl : l.length ≤ 9223372036854775806) :
    Ret Tryd.prog 57 [.agg (dw nm kind round price pool pick s l.length c).toArray] w (fun v w' => v = .bool (plB kind pool pick l) ∧ Keeps [] w w') := by
  refine Ret.of_WP Tryd.func57 rfl Tryd.ntmps57 rfl ?_
  have hp := Hp.start (M := []) (w := w)
  (repeat (first | (with_reducible first | apply WP_seq | apply WP_region | apply wpl_nil | apply thenQ_n) | ((first | apply wlp | (apply wlg; exact rfl; exact rfl)); (intros; ((first | apply pv_move | apply pv_assign | apply pf_field | (apply pf_load; exact rfl) | exact pv_or rfl rfl rfl | apply pv_lss | apply pv_gtr | (apply pv_neq; (first | exact rfl | exact ev_sel rfl (by assumption)))) <;> (first | exact rfl | exact ev_sel rfl (by assumption) | exact hp.cell 0 rfl rfl))); (intros; (first | exact fI rfl | exact fB rfl | exact fP rfl))) | (apply wls; exact sbox13 hp rfl; rintro _ w ⟨b, rfl, hp⟩)))
  refine WP_cond rfl (fun h => ?_) (fun h => ?_)
  · have hz : plB kind pool pick l = false := by
      unfold plB
      rw [decide_eq_false (by simp at h; omega)]
      rfl
    rw [hz]
    (repeat (first | (with_reducible first | apply WP_seq | apply WP_region | apply wpl_nil | apply thenQ_n | apply thenQ_ret | apply WP_ret) | (apply wlp; apply pv_assign; exact fB rfl)))
    exact ret_tmp rfl rfl ⟨_, rfl, rfl, hp.keeps⟩
  · have h1 : kind = 1 ∧ 0 ≤ pool ∧ pool ≤ 60 ∧ 0 ≤ pick ∧ pick ≤ pool := by simp at h; omega
    clear h
    (repeat (first | (with_reducible first | apply WP_seq | apply WP_region | apply wpl_nil | apply thenQ_n | apply WP_skip) | (apply wlp; ((first | apply pf_field | (apply pf_load; exact rfl) | (apply pf_len; exact rfl) | apply pv_gtr) <;> (first | exact rfl | exact hp.cell 0 rfl rfl)); (first | exact fI rfl | exact fB rfl | exact fP rfl | exact fS rfl))))
    refine WP_cond_d rfl (fun h => ?_) (fun h => ?_)
    · have hz : plB kind pool pick l = false := by
        unfold plB
        rw [decide_eq_false (show ¬ l.length ≤ 12 by omega)]
        simp
      rw [hz]
      (repeat (first | (with_reducible first | apply WP_seq | apply WP_region | apply wpl_nil | apply thenQ_n | apply thenQ_ret | apply WP_ret) | (apply wlp; apply pv_assign; exact fB rfl)))
      exact ret_tmp rfl rfl ⟨_, rfl, rfl, hp.keeps⟩
    · have h12 : l.length ≤ 12 := by omega
      clear h
      have hB : plB kind pool pick l = (l.all okT && decide (sumT l ≤ 100)) := by
        unfold plB
        rw [decide_eq_true h1, decide_eq_true h12]
        rfl
      rw [hB]
      (repeat (first | (with_reducible first | apply WP_seq | apply WP_block | apply WP_region | apply wpl_nil | apply thenQ_n | apply WP_skip) | (apply wlp; ((first | apply pv_move | apply pv_assign | apply pf_field | (apply pf_load; exact rfl) | (apply pf_len; exact rfl)) <;> (first | exact rfl | exact hp.cell 0 rfl rfl)); (first | exact fI rfl | exact fP rfl | exact fS rfl))))
      refine WP_loopS [2, 3, 5, 38, 39, 40, 41, 42, 43, 44, 45, 46, 47, 48, 49, 50, 51, 52, 53, 54] (fun (i : Nat) F => (F.put 38 (.int .i64 (i : Int))).put 3 (.int .i64 (sumT (l.take i)))) (fun i w' => i ≤ l.length ∧ (l.take i).all okT = true ∧ Hp _ [] w' _) (fun i => l.length - i) 0 (put_self (put_self (Same.eq .refl) rfl) rfl) ⟨Nat.zero_le _, rfl, hp⟩ ?_
      clear hp
      rintro u i w1 ⟨hi, hall, hp⟩
      (repeat (first | (with_reducible first | apply WP_seq | apply WP_region | apply wpl_nil | apply thenQ_n) | (apply wlp; (apply pv_lss <;> exact rfl); exact fB rfl)))
      refine WP_cond_d rfl (fun h2 => ?_) (fun h2 => ?_)
      · have hlt : i < l.length := by omega
        obtain ⟨b0, o0, hs0, hc0⟩ := hs.base (by omega)
        have hgi := List.getElem?_eq_getElem hlt
        have hci := hc0 i _ hgi
        have htk := List.take_succ_eq_append_getElem hlt
        generalize l[i] = t at hci htk
        obtain ⟨tm, tp⟩ := t
        have hbd := sumT_bd hall
        rw [List.length_take, Nat.min_eq_left (by omega)] at hbd
        (repeat (first | (with_reducible first | apply WP_seq | apply WP_block | apply WP_region | apply thenQ_n | apply WP_skip) | (apply wlp; ((first | (apply pf_loadb; exact rfl) | (apply pf_index; exact rfl)) <;> (first | exact rfl | assumption)); exact fP rfl)))
        (apply wlp; exact pf_loads (vs := [.int .i64 tm, .int .i64 tp]) rfl rfl rfl rfl (fun j v hv => hp.old0 (hci j v hv)); exact fA2 rfl)
        (repeat (first | (with_reducible first | apply WP_seq | apply WP_region | apply wpl_nil | apply thenQ_n) | ((first | apply wlp | (apply wlg; exact rfl; exact rfl)); (intros; ((first | apply pv_move | apply pf_field | (apply pf_load; exact rfl) | exact pv_or rfl rfl rfl | apply pv_lss | apply pv_gtr) <;> (first | exact rfl | exact ev_sel rfl (by assumption) | exact hp.cell 0 rfl rfl))); (intros; (first | exact fI rfl | exact fB rfl | exact fP rfl))) | (apply wls; exact salloc2 hp (zeroTy_ok rfl); rintro _ w ⟨b, rfl, hp⟩) | (apply wls0; exact sstore2 hp 0 rfl rfl rfl rfl (sizeTy_ok rfl) rfl; rintro _ w ⟨rfl, hp⟩)))
        refine WP_cond rfl (fun h => ?_) (fun h => ?_)
        · have hz : l.all okT = false := by
            have h4 : (l.take (i + 1)).all okT = false := by
              have h6 : okT (tm, tp) = false := by
                unfold okT
                simp at h ⊢
                omega
              rw [htk, List.all_append]
              simp only [List.all_cons, List.all_nil, h6, Bool.false_and, Bool.and_false]
            cases h5 : l.all okT
            · rfl
            · rw [List.all_eq_true] at h5
              have : (l.take (i + 1)).all okT = true := List.all_eq_true.2 fun x hx => h5 x (List.mem_of_mem_take hx)
              rw [this] at h4
              cases h4
          rw [hz]
          (repeat (first | (with_reducible first | apply WP_seq | apply WP_region | apply wpl_nil | apply thenQ_n | apply thenQ_ret | apply inBlk_ret | apply WP_ret) | (apply wlp; apply pv_assign; exact fB rfl)))
          exact ret_tmp rfl rfl ⟨_, rfl, rfl, hp.keeps⟩
        · have htp : 0 ≤ tp ∧ tp ≤ 100 := by simp at h; omega
          (repeat (first | (with_reducible first | apply WP_region | apply thenQ_n | apply WP_skip) | (apply wlp; ((first | apply pv_move | apply pf_field | (apply pf_load; exact rfl)) <;> (first | exact rfl | exact hp.cell 0 rfl rfl)); (first | exact fI rfl | exact fP rfl))))
          (apply wlp; exact pv_add rfl rfl; exact int_eq (i64_in (by omega) (by omega)))
          (repeat (first | (with_reducible first | apply WP_region | apply wpl_nil | apply thenQ_n | apply inBlk_n) | (apply wlp; apply pv_assign; exact fI rfl)))
          (apply wlp; exact pv_add rfl rfl; exact int_eq (i64_in (by omega) (by omega)))
          (repeat (first | (with_reducible first | apply wpl_nil | apply thenQ_n) | (apply wlp; apply pv_move; exact fI rfl)))
          refine ⟨i + 1, put_self (put_self (Same.eq (by repeat (first | exact Same.hav | exact Same.refl | refine Same.put rfl ?_ | refine Same.havs rfl ?_))) rfl) (int_eq (by rw [htk, sumT_app]; simp [sumT])), ⟨by omega, ?_, hp.tail⟩, by omega⟩
          rw [htk, List.all_append, hall]
          simp [okT, htp]
      · obtain rfl : i = l.length := by omega
        rw [List.take_length] at hall
        rw [hall, List.take_length]
        (repeat (first | (with_reducible first | apply WP_seq | apply WP_region | apply wpl_nil | apply thenQ_n | apply thenQ_exit | apply WP_ret | apply WP_exit) | ((with_reducible apply inBlk_same); exact rfl) | (apply wlp; ((first | apply pv_move | apply pv_assign | apply pv_leq) <;> exact rfl); (first | exact fI rfl | exact fB rfl))))
        exact ret_tmp rfl rfl ⟨_, rfl, rfl, hp.keeps⟩

def chA (pool pick m : Int) : Nat := chZ pick m * chZ (pool - pick) (pick - m)
theorem c30t (nm : ByteArray) (kind round price pool pick m : Int) (s : Option Addr) (c : Nat) (l : List (Int × Int)) (w : World) (hs : SlAt w 2 eT s l) (hl : l.length ≤ 9223372036854775806) (hB : plB kind pool pick l = true) (hm : 0 ≤ m ∧ m ≤ pick) :
    Ret Tryd.prog 30 [.agg (dw nm kind round price pool pick s l.length c).toArray, .int .i64 m] w (fun v w' => v = .tuple #[RV (chA pool pick m / Nat.gcd (chA pool pick m) (chZ pool pick)) (chZ pool pick / Nat.gcd (chA pool pick m) (chZ pool pick)), .bool true] ∧ Keeps [] w w') := by
  have h1 : kind = 1 ∧ 0 ≤ pool ∧ pool ≤ 60 ∧ 0 ≤ pick ∧ pick ≤ pool := by
    unfold plB at hB
    simp at hB
    omega
  have hf1 : Fit (chZ pick m) := Fit.of (k := 61) (Nat.lt_of_le_of_lt (chZ_le (by omega)) (by decide)) (by decide)
  have hf2 : Fit (chZ (pool - pick) (pick - m)) := Fit.of (k := 61) (Nat.lt_of_le_of_lt (chZ_le (by omega)) (by decide)) (by decide)
  have hf3 : Fit (chZ pool pick) := Fit.of (k := 61) (Nat.lt_of_le_of_lt (chZ_le (by omega)) (by decide)) (by decide)
  have hf4 : Fit (chA pool pick m) := by
    refine Fit.of (k := 61 + 61) ?_ (by decide)
    rw [Nat.pow_add]
    exact Nat.mul_lt_mul'' (Nat.lt_of_le_of_lt (chZ_le (by omega)) (by decide)) (Nat.lt_of_le_of_lt (chZ_le (by omega)) (by decide))
  have hpos : 0 < chZ pool pick := by
    obtain ⟨N, rfl⟩ : ∃ N : Nat, pool = N := ⟨pool.toNat, by omega⟩
    obtain ⟨K, rfl⟩ : ∃ K : Nat, pick = K := ⟨pick.toNat, by omega⟩
    rw [chZ_nat (by omega)]
    exact ch_pos (by omega)
  refine Ret.of_WP Tryd.func30 rfl Tryd.ntmps30 rfl ?_
  have hp := Hp.start (M := []) (w := w)
  (repeat (first | (with_reducible first | apply WP_seq | apply WP_region | apply wpl_nil | apply thenQ_n) | (apply wlp; ((first | apply pv_assign | (apply pf_loadb; exact rfl)) <;> (first | exact rfl | exact hp.agg_blk 1 rfl rfl)); (first | exact fB rfl | exact fA13 rfl)) | (apply wls; (first | exact sbox13 hp rfl | exact salloc3 hp (zeroTy_ok rfl)); rintro _ w ⟨b, rfl, hp⟩)))
  (apply wls; exact st_call rfl ent57 rfl (c57 nm kind round price pool pick s c l _ (hs.keep0 hp.keeps) hl); rintro _ w1 ⟨rfl, hk⟩; have hp := hp.call hk)
  rw [hB]
  (apply wlp; (apply pv_not <;> exact rfl); exact fB rfl)
  (apply wlp; apply pv_move; exact fB rfl)
  ((apply wlpT; exact rfl; exact rfl); (apply pv_move); (intros; exact fI rfl))
  (apply wlpT; exact rfl; exact rfl; (exact pv_lss rfl rfl); exact bool_eq (b := false) (decide_eq_false (by omega)))
  (repeat (first | (with_reducible first | apply wpl_nil | apply thenQ_n) | (apply wlp; (intros; ((first | apply pv_move | apply pf_field | (apply pf_load; exact rfl) | exact pv_orF rfl rfl | apply pv_gtr) <;> (first | exact rfl | exact hp.cell 1 rfl rfl))); (intros; (first | exact fI rfl | exact fB rfl | exact fP rfl))) | ((apply wlpT; exact rfl; exact rfl); (((first | apply pv_move | apply pf_field | (apply pf_load; exact rfl) | exact pv_orF rfl rfl | apply pv_gtr) <;> (first | exact rfl | exact hp.cell 1 rfl rfl))); (intros; (first | exact fI rfl | exact fB rfl | exact fP rfl))) | (apply wlpF; exact rfl; exact rfl; exact rfl) | (apply wlpU; exact rfl; exact rfl)))
  refine WP_cond_d rfl (fun h => absurd h (by omega)) (fun _ => ?_)
  (repeat (with_reducible first | apply WP_seq | apply thenQ_n | apply WP_skip))
  refine WP_draw mixed (by kernel_rfl) (fun w' => Hp _ _ w' _) hp.drew ?_
  have hp := hp.drew
  (repeat ((apply wdp; exact rfl); (intro w hp; intros; ((first | apply pv_move | apply pf_field | (apply pf_load; exact rfl)) <;> (first | exact rfl | exact hp.cell 1 rfl rfl))); (intros; (first | exact fI rfl | exact fP rfl))))
  (apply wds; exact rfl; exact st_call rfl ent12 rfl (c12 pick m _ (by omega)); rintro _ w2 ⟨rfl, hk⟩; have hp := hp.call hk; refine ⟨hp, ?_⟩)
  (repeat ((apply wdp; exact rfl); (intro w hp; intros; ((first | apply pf_field | (apply pf_load; exact rfl)) <;> (first | exact rfl | exact hp.cell 1 rfl rfl))); (intros; (first | exact fI rfl | exact fP rfl))))
  (apply wdp; exact rfl; (intro w hp; exact pv_sub rfl rfl); exact int_eq (i64_in (by omega) (by omega)))
  (repeat ((apply wdp; exact rfl); (intro w hp; intros; ((first | apply pv_move | apply pf_field | (apply pf_load; exact rfl)) <;> (first | exact rfl | exact hp.cell 1 rfl rfl))); (intros; (first | exact fI rfl | exact fP rfl))))
  (apply wdp; exact rfl; (intro w hp; exact pv_sub rfl rfl); exact int_eq (i64_in (by omega) (by omega)))
  (apply wds; exact rfl; exact st_call rfl ent12 rfl (c12 (pool - pick) (pick - m) _ (by omega)); rintro _ w3 ⟨rfl, hk⟩; have hp := hp.call hk; refine ⟨hp, ?_⟩)
  (apply wds; exact rfl; exact st_call rfl ent18 rfl (c18 (chZ pick m) (chZ (pool - pick) (pick - m)) _ hf1 hf2); rintro _ w4 ⟨rfl, hk⟩; have hp := hp.call hk; refine ⟨hp, ?_⟩)
  (repeat ((apply wdp; exact rfl); (intro w hp; intros; apply pv_assign); (intros; exact fT rfl)))
  refine wpd_nil ?_
  (repeat (first | (with_reducible first | apply WP_seq | apply WP_region | apply thenQ_n) | (apply wlp; ((first | apply pv_move | apply pf_field | (apply pf_load; exact rfl)) <;> (first | exact rfl | exact hp.cell 1 rfl rfl)); (first | exact fI rfl | exact fP rfl | exact fT rfl))))
  (apply wls; exact st_call rfl ent12 rfl (c12 pool pick _ (by omega)))
  rintro _ w5 ⟨rfl, hk⟩
  have hp := hp.call hk
  (apply wls; exact st_call rfl ent59 rfl (c59 (chA pool pick m) (chZ pool pick) _ hf4 hf3 hpos); rintro _ w6 ⟨rfl, hk⟩; have hp := hp.call hk)
  (repeat (apply wlp; (apply pv_extract <;> exact rfl); (first | exact fB rfl | exact fA3 rfl)))
  (apply wls0; exact sstore3 hp 0 rfl rfl rfl rfl (sizeTy_ok rfl) rfl; rintro _ w7 ⟨rfl, hp⟩)
  (repeat (first | (with_reducible first | apply wpl_nil | apply thenQ_n | apply WP_ret) | (apply wlp; apply pv_assign; exact fB rfl)))
  exact ret_cell2 rfl rfl rfl rfl rfl (hp.agg_blk 0 rfl rfl) ⟨_, rfl, rfl, hp.keeps⟩
theorem c30f (nm : ByteArray) (kind round price pool pick m : Int) (s : Option Addr) (c : Nat) (l : List (Int × Int)) (w : World) (hs : SlAt w 2 eT s l) (hl : l.length ≤ 9223372036854775806) (hB : plB kind pool pick l = false ∨ m < 0 ∨ pick < m) :
    Ret Tryd.prog 30 [.agg (dw nm kind round price pool pick s l.length c).toArray, .int .i64 m] w (fun v w' => v = .tuple #[RV 0 0, .bool false] ∧ Keeps [] w w') := by
  refine Ret.of_WP Tryd.func30 rfl Tryd.ntmps30 rfl ?_
  have hp := Hp.start (M := []) (w := w)
  (repeat (first | (with_reducible first | apply WP_seq | apply WP_region | apply wpl_nil | apply thenQ_n) | (apply wlp; ((first | apply pv_assign | (apply pf_loadb; exact rfl)) <;> (first | exact rfl | exact hp.agg_blk 1 rfl rfl)); (first | exact fB rfl | exact fA13 rfl)) | (apply wls; (first | exact sbox13 hp rfl | exact salloc3 hp (zeroTy_ok rfl)); rintro _ w ⟨b, rfl, hp⟩)))
  (apply wls; exact st_call rfl ent57 rfl (c57 nm kind round price pool pick s c l _ (hs.keep0 hp.keeps) hl); rintro _ w1 ⟨rfl, hk⟩; have hp := hp.call hk)
  (repeat (first | (with_reducible first | apply wpl_nil | apply thenQ_n) | ((first | apply wlp | (apply wlg; exact rfl; exact rfl)); (intros; ((first | apply pv_move | apply pf_field | (apply pf_load; exact rfl) | exact pv_or rfl rfl rfl | apply pv_lss | apply pv_gtr | apply pv_not) <;> (first | exact rfl | exact ev_sel rfl (by assumption) | exact hp.cell 1 rfl rfl))); (intros; (first | exact fI rfl | exact fB rfl | exact fP rfl)))))
  refine WP_cond rfl (fun _ => ?_) (fun h => ?_)
  · (repeat (first | (with_reducible first | apply WP_seq | apply WP_region | apply wpl_nil | apply thenQ_n | apply thenQ_ret | apply WP_ret) | (apply wlp; ((first | apply pv_assign | (apply pf_build; exact rfl)) <;> exact rfl); (first | exact fB rfl | exact fA3 rfl)) | (apply wls0; exact sstore3 hp 0 rfl rfl rfl rfl (sizeTy_ok rfl) rfl; rintro _ w ⟨rfl, hp⟩)))
    exact ret_cell2 rfl rfl rfl rfl rfl (hp.agg_blk 0 rfl rfl) ⟨_, rfl, rfl, hp.keeps⟩
  · exfalso
    simp at h
    rcases hB with hB | hB | hB
    · rw [hB] at h
      simp at h
    · omega
    · omega
theorem c21 (a b : List Int) (s s2 : Option Addr) (c c2 : Nat) (w : World) (hs : SlAt w 1 eI s a) (hs2 : SlAt w 1 eI s2 b) (hla : a.length ≤ 9223372036854775806) (hlb : b.length ≤ 9223372036854775806) :
    Ret Tryd.prog 21 [.slice s a.length c, .slice s2 b.length c2] w (fun v w' => v = .bool (decide (a = b)) ∧ Keeps [] w w') := by
  refine Ret.of_WP Tryd.func21 rfl Tryd.ntmps21 rfl ?_
  have hp := Hp.start (M := []) (w := w)
  (repeat (first | (with_reducible first | apply WP_seq | apply WP_region | apply wpl_nil | apply thenQ_n) | (apply wlp; ((first | apply pv_move | apply pv_assign | (apply pf_len; exact rfl) | (apply pv_neq; (first | exact rfl | exact ev_sel rfl (by assumption)))) <;> exact rfl); (first | exact fI rfl | exact fB rfl | exact fS rfl))))
  refine WP_cond_nd rfl (fun h => ?_) (fun h => ?_)
  · have hne : a ≠ b := by rintro rfl; exact h rfl
    (repeat (first | (with_reducible first | apply WP_seq | apply WP_region | apply wpl_nil | apply thenQ_n | apply thenQ_ret | apply WP_ret) | (apply wlp; apply pv_assign; exact fB rfl)))
    exact ret_tmp rfl rfl ⟨_, rfl, by rw [decide_eq_false hne]; rfl, hp.keeps⟩
  · have hl : a.length = b.length := by omega
    (repeat (first | (with_reducible first | apply WP_seq | apply WP_block | apply WP_region | apply wpl_nil | apply thenQ_n | apply WP_skip) | (apply wlp; apply pv_assign; exact fI rfl)))
    refine WP_loopS [4, 5, 11, 12, 13, 14, 15, 16, 17, 18, 19, 20, 21, 22, 23, 24, 25] (fun (i : Nat) F => F.put 5 (.int .i64 (i : Int))) (fun i w' => i ≤ a.length ∧ a.take i = b.take i ∧ Hp w [] w' []) (fun i => a.length - i) 0 (put_self (Same.eq .refl) rfl) ⟨Nat.zero_le _, rfl, hp⟩ ?_
    clear hp
    rintro u i w1 ⟨hi, he, hp⟩
    (repeat (first | (with_reducible first | apply WP_seq | apply WP_region | apply wpl_nil | apply thenQ_n) | (apply wlp; ((first | apply pv_move | (apply pf_len; exact rfl) | apply pv_lss) <;> exact rfl); (first | exact fI rfl | exact fB rfl | exact fS rfl))))
    refine WP_cond_d rfl (fun h2 => ?_) (fun h2 => ?_)
    · have hlt : i < a.length := by omega
      have hlt2 : i < b.length := by omega
      obtain ⟨b0, o0, hs0, hc0⟩ := hs.base (by omega)
      have hci := hc0 i _ (List.getElem?_eq_getElem hlt) 0 _ rfl
      obtain ⟨b1, o1, hs1, hc1⟩ := hs2.base (by omega)
      have hcj := hc1 i _ (List.getElem?_eq_getElem hlt2) 0 _ rfl
      have ht1 := List.take_succ_eq_append_getElem hlt
      have ht2 := List.take_succ_eq_append_getElem hlt2
      have hne : a[i] ≠ b[i] → a ≠ b := by rintro h rfl; exact h rfl
      generalize a[i] = x at hci ht1 hne
      generalize b[i] = y at hcj ht2 hne
      (repeat (with_reducible first | apply WP_seq | apply WP_block | apply thenQ_n | apply WP_skip))
      refine WP_draw mixed (by kernel_rfl) (fun w' => Hp _ _ w' _) hp.drew ?_
      have hp := hp.drew
      (repeat ((apply wdp; exact rfl); (intro w hp; intros; ((first | apply pv_move | (apply pf_load; exact rfl) | (apply pv_neq; (first | exact rfl | exact ev_sel rfl (by assumption))) | (apply pf_index; exact rfl)) <;> (first | exact rfl | assumption | exact hp.old0 (by assumption)))); (intros; (first | exact fI rfl | exact fB rfl | exact fP rfl | exact fS rfl))))
      refine wpd_nil ?_
      (repeat with_reducible apply thenQ_n)
      refine WP_cond_nd rfl (fun h3 => ?_) (fun h3 => ?_)
      · (repeat (first | (with_reducible first | apply WP_seq | apply WP_region | apply wpl_nil | apply thenQ_n | apply thenQ_ret | apply inBlk_ret | apply WP_ret) | (apply wlp; apply pv_assign; exact fB rfl)))
        exact ret_tmp rfl rfl ⟨_, rfl, by rw [decide_eq_false (hne h3)]; rfl, hp.keeps⟩
      · (repeat (first | (with_reducible first | apply WP_region | apply thenQ_n | apply inBlk_n | apply WP_skip) | (apply wlp; apply pv_move; exact fI rfl)))
        (apply wlp; exact pv_add rfl rfl; exact int_eq (i64_in (by omega) (by omega)))
        (repeat (first | (with_reducible first | apply wpl_nil | apply thenQ_n) | (apply wlp; apply pv_assign; exact fI rfl)))
        exact ⟨i + 1, put_self (Same.eq (by repeat (first | exact Same.hav | exact Same.refl | refine Same.put rfl ?_ | refine Same.havs rfl ?_))) rfl, ⟨by omega, by rw [ht1, ht2, he, h3], hp⟩, by omega⟩
    · obtain rfl : i = a.length := by omega
      have hab : a = b := by
        rw [List.take_length, hl, List.take_length] at he
        exact he
      (repeat (first | (with_reducible first | apply WP_seq | apply WP_region | apply wpl_nil | apply thenQ_n | apply thenQ_exit | apply WP_ret | apply WP_exit) | ((with_reducible apply inBlk_same); exact rfl) | (apply wlp; apply pv_assign; exact fB rfl)))
      exact ret_tmp rfl rfl ⟨_, rfl, by rw [decide_eq_true hab]; rfl, hp.keeps⟩
end Go.Proofs.YteklkjnhefnimaaDoor
