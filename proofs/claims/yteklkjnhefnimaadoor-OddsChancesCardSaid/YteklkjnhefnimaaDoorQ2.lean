/- Merged texts of ours: Ea Eb Ec Ed Ee Ef Eg Eh Ei Ej Ek Za Fe Ga; conditions are the hypotheses of each law. -/
import Derived.Test.YteklkjnhefnimaaDoorQ1
import Derived.Test.YteklkjnhefnimaaDoorTie
import Derived.Test.YteklkjnhefnimaaDoorCards
import Derived.WalkKit
import Derived.ProofKit
import Derived.OpenShut
import Derived.Carry
import Derived.Deep.Slices
import Derived.SizedLaws
import Derived.LaidLaws
import Derived.LaidHandle
import Derived.ChangeVars
import Derived.JoinedOf
import Derived.RowKit
/- odds: fold, Factorial, Choose; conditions: at most 100 elements, or more than 1000. -/
namespace Go.Proofs.YteklkjnhefnimaaDoor
open Go.Eng Go.Dig

theorem rise_le (m : Nat) : ∀ n, m + n ≤ 128 → rise m n ≤ 2 ^ (7 * n)
  | 0, _ => by simp [rise]
  | n + 1, h => by
    have h1 := rise_le m n (by omega)
    rw [rise, Nat.mul_succ, Nat.pow_add]
    exact Nat.mul_le_mul h1 (by omega)
theorem rise_fit {m n : Nat} (h : m + n ≤ 128) : Fit (rise m n) := by
  refine Fit.of (k := 7 * n + 1) (Nat.lt_of_le_of_lt (rise_le m n h) (Nat.pow_lt_pow_right (by decide) (by omega))) (by omega)
theorem fact_fit {n : Nat} (h : n ≤ 128) : Fit (fact n) := by
  rw [← fact_rise]
  exact rise_fit (by omega)
theorem ch_fit {n k : Nat} (h : n ≤ 3000) : Fit (ch n k) := Fit.of (k := n + 1) (Nat.lt_of_le_of_lt (ch_le_pow n k) (Nat.pow_lt_pow_right (by decide) (by omega))) (by omega)
/-- the number of subsets, for any numbers -/
def chZ (n k : Int) : Nat := if n < 0 ∨ n > 1000 ∨ k < 0 ∨ k > n then 0 else ch n.toNat k.toNat
theorem chZ_nat {n k : Nat} (h : n ≤ 1000) : chZ n k = ch n k := by
  unfold chZ
  by_cases hk : k ≤ n
  · rw [if_neg (by omega)]
    simp
  · rw [if_pos (by omega), ch_gt n k (by omega)]
theorem chZ_zero {n k : Int} (h : n < 0 ∨ n > 1000 ∨ k < 0 ∨ k > n) : chZ n k = 0 := if_pos h

attribute [local irreducible] PV StepF wpl wpd WP Ret
attribute [local irreducible] Fit

theorem c36 (n m : Nat) (f : FuncId) (caps : Array Value) (w : World) (he : Enters Tryd.prog f) (hmn : m + n ≤ 100)
    (hc : ∀ (i : Nat) (w' : World), Keeps [] w w' → 1 ≤ i → i ≤ n → Ret Tryd.prog f ([.int .i64 (i : Int)] ++ caps.toList) w' (fun v w2 => v = .int .i64 ((m + i : Nat) : Int) ∧ Keeps [] w' w2)) :
    Ret Tryd.prog 36 [.int .i64 (n : Int), .func (.func f) #[] caps] w (fun v w' => v = .string (ofN (rise m n)) ∧ Keeps [] w w') := by
  refine Ret.of_WP Tryd.func36 rfl Tryd.ntmps36 rfl ?_
  have hp := Hp.start (M := []) (w := w)
  (repeat (first | (with_reducible first | apply WP_seq | apply WP_region | apply wpl_nil | apply thenQ_n) | (apply wlp; apply pv_assign; exact fT rfl)))
  (apply wls; exact st_call rfl ent13 rfl (c13 1 _ (by decide)))
  rintro _ w1 ⟨rfl, hk⟩
  have hp := hp.call hk
  (repeat (first | (with_reducible first | apply WP_seq | apply WP_block | apply WP_region | apply wpl_nil | apply thenQ_n) | (apply wlp; (first | apply pv_move | apply pv_assign); (first | exact fI rfl | exact fT rfl))))
  refine WP_loopS [5, 6, 9, 10, 11, 12, 13, 14, 15, 16, 17, 18, 19] (fun (i : Nat) F => (F.put 5 (.string (ofN (rise m i)))).put 9 (.int .i64 (i : Int))) (fun i w' => i ≤ n ∧ Hp w [] w' []) (fun i => n - i) 0 (put_self (put_self (Same.eq .refl) rfl) rfl) ⟨Nat.zero_le _, hp⟩ ?_
  clear hp
  rintro u i w2 ⟨hi, hp⟩
  (repeat (first | (with_reducible first | apply WP_seq | apply WP_region | apply wpl_nil | apply thenQ_n) | (apply wlp; (apply pv_lss <;> exact rfl); exact fB rfl)))
  refine WP_cond_d rfl (fun h2 => ?_) (fun h2 => ?_)
  · (repeat (first | (with_reducible first | apply WP_seq | apply WP_block | apply WP_region | apply wpl_nil | apply thenQ_n | apply WP_skip) | (apply wlp; (first | apply pv_move | apply pv_assign); (first | exact fI rfl | exact fT rfl | exact fF rfl))))
    (apply wlp; (exact pv_add rfl rfl); exact int_eq (b := ((i + 1 : Nat) : Int)) (by rw [i64_in (by omega) (by omega)]; omega))
    (apply wls; exact st_call rfl he rfl (hc (i + 1) _ hp.keeps (by omega) (by omega)))
    rintro _ w3 ⟨rfl, hk⟩
    have hp := hp.call hk
    skip
    (apply wls; exact st_call rfl ent13 rfl (c13 ((m + (i + 1) : Nat) : Int) _ (by omega)))
    rintro _ w4 ⟨rfl, hk⟩
    have hp := hp.call hk
    rw [Int.toNat_natCast]
    skip
    (apply wls; exact st_call rfl ent18 rfl (c18 (rise m i) (m + (i + 1)) _ (rise_fit (by omega)) (Fit.small (by omega))))
    rintro _ w5 ⟨rfl, hk⟩
    have hp := hp.call hk
    (repeat (first | (with_reducible first | apply WP_region | apply wpl_nil | apply thenQ_n | apply inBlk_n) | (apply wlp; apply pv_assign; exact fT rfl)))
    (apply wlp; exact pv_add rfl rfl; exact int_eq (i64_in (by omega) (by omega)))
    (repeat (first | (with_reducible first | apply wpl_nil | apply thenQ_n) | (apply wlp; apply pv_move; exact fI rfl)))
    exact ⟨i + 1, put_self (put_self (Same.eq (by repeat (first | exact Same.hav | exact Same.refl | refine Same.put rfl ?_ | refine Same.havs rfl ?_))) rfl) rfl, ⟨by omega, hp⟩, by omega⟩
  · obtain rfl : i = n := by omega
    (repeat (first | (with_reducible first | apply WP_seq | apply WP_region | apply wpl_nil | apply thenQ_n | apply thenQ_exit | apply WP_ret | apply WP_exit) | ((with_reducible apply inBlk_same); exact rfl) | (apply wlp; (first | apply pv_move | apply pv_assign); exact fT rfl)))
    exact ret_tmp rfl rfl ⟨_, rfl, rfl, hp.keeps⟩
theorem c37 (a b i : Int) (p q : Nat) (w : World) (hp : w.cell? ⟨p, 0, none⟩ = some (.int .i64 a)) (hq : w.cell? ⟨q, 0, none⟩ = some (.int .i64 b)) (h : 0 ≤ b ∧ b ≤ a ∧ 0 ≤ i ∧ i ≤ b ∧ a ≤ 1000) :
    Ret Tryd.prog 37 [.int .i64 i, .pointer (some ⟨p, 0, none⟩), .pointer (some ⟨q, 0, none⟩)] w (fun v w' => v = .int .i64 (a - b + i) ∧ Keeps [] w w') := by
  refine Ret.of_WP Tryd.func37 rfl Tryd.ntmps37 rfl ?_
  have hp := Hp.start (M := []) (w := w)
  (repeat (first | (with_reducible first | apply WP_seq | apply WP_region | apply wpl_nil | apply thenQ_n) | (apply wlp; ((first | apply pv_assign | (apply pf_load; exact rfl)) <;> (first | exact rfl | assumption)); exact fI rfl)))
  (apply wlp; exact pv_sub rfl rfl; exact int_eq (i64_in (by omega) (by omega)))
  (repeat (apply wlp; apply pv_move; exact fI rfl))
  (apply wlp; exact pv_add rfl rfl; exact int_eq (i64_in (by omega) (by omega)))
  (repeat (first | (with_reducible first | apply wpl_nil | apply thenQ_n | apply WP_ret) | (apply wlp; apply pv_assign; exact fI rfl)))
  exact ret_tmp rfl rfl ⟨_, rfl, rfl, hp.keeps⟩
theorem c42 (i : Int) (w : World) : Ret Tryd.prog 42 [.int .i64 i] w (fun v w' => v = .int .i64 i ∧ Keeps [] w w') := by
  refine Ret.of_WP Tryd.func42 rfl Tryd.ntmps42 rfl ?_
  have hp := Hp.start (M := []) (w := w)
  (repeat (first | (with_reducible first | apply WP_seq | apply WP_region | apply wpl_nil | apply thenQ_n | apply WP_ret) | (apply wlp; (first | apply pv_move | apply pv_assign); exact fI rfl)))
  exact ret_tmp rfl rfl ⟨_, rfl, rfl, hp.keeps⟩
theorem c15 (n : Nat) (w : World) (hn : n ≤ 100) : Ret Tryd.prog 15 [.int .i64 (n : Int)] w (fun v w' => v = .string (ofN (fact n)) ∧ Keeps [] w w') := by
  refine Ret.of_WP Tryd.func15 rfl Tryd.ntmps15 rfl ?_
  have hp := Hp.start (M := []) (w := w)
  (repeat (with_reducible first | apply WP_seq | apply WP_region))
  (apply wlp; apply pv_assign; exact fT rfl)
  (repeat (with_reducible first | apply WP_seq | apply WP_region | apply wpl_nil | apply thenQ_n))
  (apply wlp; apply pv_move; exact fI rfl)
  (apply wlp; (exact pv_lss rfl rfl); exact bool_eq (b := false) (decide_eq_false (by omega)))
  (repeat (first | (with_reducible first | apply wpl_nil | apply thenQ_n) | (apply wlp; (intros; ((first | apply pv_move | exact pv_orF rfl rfl | apply pv_gtr) <;> exact rfl)); (intros; (first | exact fI rfl | exact fB rfl))) | ((apply wlpT; exact rfl; exact rfl); (((first | apply pv_move | exact pv_orF rfl rfl | apply pv_gtr) <;> exact rfl)); (intros; (first | exact fI rfl | exact fB rfl))) | (apply wlpF; exact rfl; exact rfl; exact rfl) | (apply wlpU; exact rfl; exact rfl)))
  refine WP_cond_d rfl (fun h => absurd h (by omega)) (fun _ => ?_)
  (repeat (first | (with_reducible first | apply WP_seq | apply WP_region | apply thenQ_n | apply WP_skip) | (apply wlp; apply pv_move; exact fI rfl)))
  (apply wls; exact st_call rfl ent36 rfl (c36 n 0 42 #[] _ ent42 (by omega) (fun i w' _ _ _ => Ret.mono (c42 i w') (fun v w2 h => ⟨by rw [h.1, Nat.zero_add], h.2⟩))))
  rintro _ w1 ⟨rfl, hk⟩
  have hp := hp.call hk
  (repeat (first | (with_reducible first | apply wpl_nil | apply thenQ_n | apply WP_ret) | (apply wlp; apply pv_assign; exact fT rfl)))
  exact ret_tmp rfl rfl ⟨_, rfl, by rw [fact_rise]; rfl, hp.keeps⟩
theorem c15z (n : Int) (w : World) (hn : n < 0 ∨ n > 1000) : Ret Tryd.prog 15 [.int .i64 n] w (fun v w' => v = .string (ofN 0) ∧ Keeps [] w w') := by
  refine Ret.of_WP Tryd.func15 rfl Tryd.ntmps15 rfl ?_
  have hp := Hp.start (M := []) (w := w)
  (repeat (first | (with_reducible first | apply WP_seq | apply WP_region | apply wpl_nil | apply thenQ_n) | ((first | apply wlp | (apply wlg; exact rfl; exact rfl)); (intros; ((first | apply pv_move | apply pv_assign | exact pv_or rfl rfl rfl | apply pv_lss | apply pv_gtr) <;> (first | exact rfl | exact ev_sel rfl (by assumption)))); (intros; (first | exact fI rfl | exact fB rfl | exact fT rfl)))))
  refine WP_cond rfl (fun h => ?_) (fun h => ?_)
  · (repeat (with_reducible first | apply WP_seq | apply WP_region))
    (apply wls; exact st_call rfl ent13 rfl (c13 0 _ (by decide)))
    rintro _ w1 ⟨rfl, hk⟩
    have hp := hp.call hk
    (repeat (first | (with_reducible first | apply wpl_nil | apply thenQ_n | apply thenQ_ret | apply WP_ret) | (apply wlp; apply pv_assign; exact fT rfl)))
    exact ret_tmp rfl rfl ⟨_, rfl, rfl, hp.keeps⟩
  · exfalso
    simp at h
    omega
theorem c12 (n k : Int) (w : World) (hn : n ≤ 100 ∨ n > 1000) : Ret Tryd.prog 12 [.int .i64 n, .int .i64 k] w (fun v w' => v = .string (ofN (chZ n k)) ∧ Keeps [] w w') := by
  refine Ret.of_WP Tryd.func12 rfl Tryd.ntmps12 rfl ?_
  have hp := Hp.start (M := []) (w := w)
  (repeat (first | (with_reducible first | apply WP_seq | apply WP_region | apply wpl_nil | apply thenQ_n) | ((first | apply wlp | (apply wlg; exact rfl; exact rfl)); (intros; ((first | apply pv_move | apply pv_assign | (apply pf_load; exact rfl) | exact pv_or rfl rfl rfl | apply pv_lss | apply pv_gtr) <;> (first | exact rfl | exact ev_sel rfl (by assumption) | exact hp.cell 0 rfl rfl | exact hp.cell 1 rfl rfl))); (intros; (first | exact fI rfl | exact fB rfl | exact fT rfl))) | (apply wls; exact sbox1 hp rfl rfl; rintro _ w ⟨b, rfl, hp⟩)))
  refine WP_cond rfl (fun h => ?_) (fun h => ?_)
  · have hz : chZ n k = 0 := chZ_zero (by simp at h; omega)
    (repeat (with_reducible first | apply WP_seq | apply WP_region))
    (apply wls; exact st_call rfl ent13 rfl (c13 0 _ (by decide)))
    rintro _ w1 ⟨rfl, hk⟩
    have hp := hp.call hk
    (repeat (first | (with_reducible first | apply wpl_nil | apply thenQ_n | apply thenQ_ret | apply WP_ret) | (apply wlp; apply pv_assign; exact fT rfl)))
    exact ret_tmp rfl rfl ⟨_, rfl, by rw [hz]; rfl, hp.keeps⟩
  · have h0 : 0 ≤ k ∧ k ≤ n ∧ n ≤ 100 := by simp at h; omega
    obtain ⟨N, rfl⟩ : ∃ N : Nat, n = N := ⟨n.toNat, by omega⟩
    obtain ⟨K, rfl⟩ : ∃ K : Nat, k = K := ⟨k.toNat, by omega⟩
    rw [chZ_nat (by omega)]
    clear h
    obtain ⟨K', hK'⟩ : ∃ K' : Nat, K' = min K (N - K) := ⟨_, rfl⟩
    have hch : ch N K = ch N K' := by
      rw [hK']
      rcases Nat.le_total K (N - K) with h | h
      · rw [Nat.min_eq_left h]
      · rw [Nat.min_eq_right h, ch_symm (by omega)]
    (repeat (first | (with_reducible first | apply WP_seq | apply WP_region | apply thenQ_n | apply WP_skip) | (apply wlp; ((apply pf_load; exact rfl) <;> (first | exact rfl | exact hp.cell 0 rfl rfl | exact hp.cell 1 rfl rfl)); exact fI rfl)))
    (apply wlp; (exact pv_sub rfl rfl); exact int_eq (b := ((N - K : Nat) : Int)) (by rw [i64_in (by omega) (by omega)]; omega))
    (apply wlp; exact pv_min rfl rfl; exact int_eq (b := (K' : Int)) (by omega))
    (repeat (first | (with_reducible first | apply WP_seq | apply WP_region | apply wpl_nil | apply thenQ_n) | (apply wlp; ((first | (apply pf_load; exact rfl) | apply pv_func) <;> (first | exact rfl | exact hp.cell 0 rfl rfl)); (first | exact fI rfl | exact fF2 rfl)) | (apply wls0; exact sstore1 hp 0 rfl rfl rfl rfl (sizeTy_ok rfl) rfl; rintro _ w ⟨rfl, hp⟩)))
    have hq : w.cell? ⟨_, 0, none⟩ = some (.int .i64 (K' : Int)) := hp.cell 0 rfl rfl
    have hp1 : w.cell? ⟨_, 0, none⟩ = some (.int .i64 (N : Int)) := hp.cell 1 rfl rfl
    (apply wls; exact st_call rfl ent36 rfl (c36 K' (N - K') 37 _ _ ent37 (by omega) (fun i w' hk h1 h2 => Ret.mono (c37 N K' i _ _ w' (hk.cell hp1 (by simp)) (hk.cell hq (by simp)) (by omega)) (fun v w2 h => ⟨by rw [h.1]; exact int_eq (by omega), h.2⟩))))
    rintro _ w1 ⟨rfl, hk⟩
    have hp := hp.call hk
    (repeat (first | (with_reducible first | apply WP_seq | apply WP_region | apply wpl_nil | apply thenQ_n) | (apply wlp; ((first | apply pv_move | apply pv_assign | (apply pf_load; exact rfl)) <;> (first | exact rfl | exact hp.cell 0 rfl rfl)); (first | exact fI rfl | exact fT rfl))))
    (apply wls; exact st_call rfl ent15 rfl (c15 K' _ (by omega)))
    rintro _ w2 ⟨rfl, hk⟩
    have hp := hp.call hk
    skip
    (apply wls; exact st_call rfl ent24 rfl (c24 _ _ _ (rise_fit (by omega)) (fact_fit (by omega)) (fact_pos _)))
    rintro _ w3 ⟨rfl, hk⟩
    have hp := hp.call hk
    rw [rise_div (by omega), ← hch]
    (repeat (first | (with_reducible first | apply WP_seq | apply WP_region | apply wpl_nil | apply thenQ_n | apply WP_ret) | (apply wlp; ((first | apply pv_move | apply pv_assign | apply pv_extract) <;> exact rfl); (first | exact fB rfl | exact fT rfl | exact fU rfl))))
    exact ret_tmp rfl rfl ⟨_, rfl, rfl, hp.keeps⟩
end Go.Proofs.YteklkjnhefnimaaDoor
/- Equality of rational numbers and of two flags as the program compares them; no conditions. -/
namespace Go.Proofs.YteklkjnhefnimaaDoor
open Go.Eng
theorem eqIn_str {P : Program} {w : World} {t : Nat} {a b : ByteArray} (ht : P.underlying t = some .string) (k : Nat) : (Op.equalIn (k + 1) t (.string a) (.string b)).run P w = .ok (decide (a = b)) w := by
  unfold Op.equalIn
  simp [run_und ht]
  exact beq_bytes a b
theorem partAt {t : Nat} {w : World} (hag : (isAgg t).run Tryd.prog w = .ok false w) (xs : Array Value) (o : Nat) (v : Value) (h : xs[o]? = some v) : (part t xs o).run Tryd.prog w = .ok v w := by
  simp [part, hag, h]
theorem eq62 (a a' : Bool) (b b' c c' : ByteArray) (w : World) : (Op.equal 62 (.agg #[.bool a, .string b, .string c]) (.agg #[.bool a', .string b', .string c'])).run Tryd.prog w = .ok ((a == a') && (decide (b = b') && decide (c = c'))) w := by
  show (Op.equalIn (9998 + 1 + 1) 62 _ _).run Tryd.prog w = _
  have hs : (Program.stoodInHeld Tryd.prog 62) = false := by kernel_rfl
  have h4 := fun (x y : Bool) => eqIn_bool (P := Tryd.prog) (w := w) (a := x) (b := y) Tryd.underlying4 9998
  have h23 := fun (x y : ByteArray) => eqIn_str (P := Tryd.prog) (w := w) (a := x) (b := y) Tryd.underlying23 9998
  have g4 : (isAgg 4).run Tryd.prog w = .ok false w := by kernel_rfl
  have g23 : (isAgg 23).run Tryd.prog w = .ok false w := by kernel_rfl
  have p0 := fun (x : Bool) (y z : ByteArray) => partAt g4 #[.bool x, .string y, .string z] 0 _ rfl
  have p1 := fun (x : Bool) (y z : ByteArray) => partAt g23 #[.bool x, .string y, .string z] 1 _ rfl
  have p2 := fun (x : Bool) (y z : ByteArray) => partAt g23 #[.bool x, .string y, .string z] 2 _ rfl
  simp only [Nat.reduceAdd] at h4 h23
  rw [Op.equalIn]
  simp only [Sem.run_bind, run_und Tryd.underlying62, Result.andThen_ok]
  simp [hs, Sem.run_bind, p0, p1, p2, h4, h23]
  cases a <;> cases a' <;> by_cases hb : b = b' <;> by_cases hc : c = c' <;> simp [hb, hc]
theorem pv_eq62 {n : Nat} {w : World} {F : Fr} {d : Option Tmp} {ty : TypeId} {pos : String} {aft : Array Edge} {g : Option (Nat × Bool)} {x y : Operand} {t' : Nat} {a a' : Bool} {b b' c c' : ByteArray}
    (hx : ev n F x = .agg #[.bool a, .string b, .string c]) (hy : ev n F y = .agg #[.bool a', .string b', .string c']) : PV Tryd.prog n w F ⟨d, .binOp .eql 62 x y t', ty, pos, aft, g⟩ (.bool ((a == a') && (decide (b = b') && decide (c = c')))) := by
  have h := eq62 a a' b b' c c' w
  have hg : Program.eqGuardType Tryd.prog Tryd.prog.depth 62 = false := by kernel_rfl
  simp [PV, execOp, hx, hy, eqGuard, hg, binOp, h]
theorem pv_ne62 {n : Nat} {w : World} {F : Fr} {d : Option Tmp} {ty : TypeId} {pos : String} {aft : Array Edge} {g : Option (Nat × Bool)} {x y : Operand} {t' : Nat} {a a' : Bool} {b b' c c' : ByteArray}
    (hx : ev n F x = .agg #[.bool a, .string b, .string c]) (hy : ev n F y = .agg #[.bool a', .string b', .string c']) : PV Tryd.prog n w F ⟨d, .binOp .neq 62 x y t', ty, pos, aft, g⟩ (.bool (!((a == a') && (decide (b = b') && decide (c = c'))))) := by
  have h := eq62 a a' b b' c c' w
  have hg : Program.eqGuardType Tryd.prog Tryd.prog.depth 62 = false := by kernel_rfl
  simp [PV, execOp, hx, hy, eqGuard, hg, binOp, h]
theorem eq102 (a b : Bool) (w : World) : (Op.equal 102 (.agg #[.bool a, .bool b]) (.agg #[.bool false, .bool false])).run Tryd.prog w = .ok (!a && !b) w := by
  cases a <;> cases b <;> kernel_rfl
theorem pv_eq102 {n : Nat} {w : World} {F : Fr} {d : Option Tmp} {ty : TypeId} {pos : String} {aft : Array Edge} {g : Option (Nat × Bool)} {x y : Operand} {t' : Nat} {a b : Bool}
    (hx : ev n F x = .agg #[.bool a, .bool b]) (hy : ev n F y = .agg #[.bool false, .bool false]) : PV Tryd.prog n w F ⟨d, .binOp .eql 102 x y t', ty, pos, aft, g⟩ (.bool (!a && !b)) := by
  have h := eq102 a b w
  have hg : Program.eqGuardType Tryd.prog Tryd.prog.depth 102 = false := by kernel_rfl
  simp [PV, execOp, hx, hy, eqGuard, hg, binOp, h]
end Go.Proofs.YteklkjnhefnimaaDoor
/- odds: isSet, Rank; conditions: the list lies in memory. -/
namespace Go.Proofs.YteklkjnhefnimaaDoor
open Go.Eng Go.Dig

/-- plain: is the element at j as it should be? -/
def okAt (pool : Int) (l : List Int) (j : Nat) : Bool := decide (1 ≤ l.getD j 0) && decide (l.getD j 0 ≤ pool) && (decide (j = 0) || decide (l.getD (j - 1) 0 < l.getD j 0))
def isU (pool : Int) (l : List Int) (i : Nat) : Bool := (List.range i).all (okAt pool l)
def setB (pool : Int) (l : List Int) : Bool := decide (0 ≤ pool) && decide (pool ≤ 60) && isU pool l l.length
theorem isU_succ (pool : Int) (l : List Int) (i : Nat) : isU pool l (i + 1) = (isU pool l i && okAt pool l i) := by
  simp [isU, List.range_succ]
theorem isU_at {pool : Int} {l : List Int} {i j : Nat} (h : isU pool l i = true) (hj : j < i) : okAt pool l j = true := List.all_eq_true.1 h j (by simpa using hj)
theorem isU_mono {pool : Int} {l : List Int} {i j : Nat} (h : isU pool l i = false) (hj : i ≤ j) : isU pool l j = false := by
  cases h2 : isU pool l j
  · rfl
  · have : isU pool l i = true := List.all_eq_true.2 fun x hx => isU_at h2 (by simp at hx; omega)
    rw [this] at h
    cases h
theorem getD_at {l : List Int} {i : Nat} (h : i < l.length) : l.getD i 0 = l[i] := by simp [List.getD_eq_getElem?_getD, List.getElem?_eq_getElem h]
/-- the sum of the numbers of subsets for the values b + 1 to b + t -/
def innS (pool b k : Int) : Nat → Nat
  | 0 => 0
  | t + 1 => innS pool b k t + chZ (pool - (b + (t + 1 : Nat))) k
/-- the rank by the first i elements -/
def rkN (pool : Int) (l : List Int) : Nat → Nat
  | 0 => 0
  | i + 1 => rkN pool l i + innS pool (if i = 0 then 0 else l.getD (i - 1) 0) ((l.length : Int) - i - 1) (l.getD i 0 - (if i = 0 then 0 else l.getD (i - 1) 0) - 1).toNat
theorem chZ_le {n k : Int} (h : n ≤ 60) : chZ n k ≤ 2 ^ 60 := by
  unfold chZ
  split
  · exact Nat.zero_le _
  · exact Nat.le_trans (ch_le_pow _ _) (Nat.pow_le_pow_right (by decide) (by omega))
theorem innS_le {pool b k : Int} (hp : pool ≤ 60) (hb : 0 ≤ b) : ∀ t, innS pool b k t ≤ t * 2 ^ 60
  | 0 => by simp [innS]
  | t + 1 => by
    have h1 := innS_le (k := k) hp hb t
    have h2 := chZ_le (n := pool - (b + (t + 1 : Nat))) (k := k) (by omega)
    rw [innS, Nat.add_mul, Nat.one_mul]
    omega
/-- a bound of a rank so far -/
def RB (r : Nat) (b : Int) : Prop := r ≤ b.toNat * 2 ^ 60
theorem RB.zero (b : Int) : RB 0 b := Nat.zero_le _
theorem RB.fit {r : Nat} {pool b k : Int} {t : Nat} (h : RB r b) (hp : pool ≤ 60) (hb : 0 ≤ b) (ht : b + t + 1 ≤ pool) : Fit (r + innS pool b k t) := by
  have hin := innS_le (k := k) hp hb t
  unfold RB at h
  refine Fit.of (k := 67) ?_ (by decide)
  have e1 : b.toNat * 2 ^ 60 + t * 2 ^ 60 = (b.toNat + t) * 2 ^ 60 := (Nat.add_mul _ _ _).symm
  have e2 : (b.toNat + t) * 2 ^ 60 ≤ 60 * 2 ^ 60 := Nat.mul_le_mul_right _ (by omega)
  have e3 : 60 * 2 ^ 60 < 2 ^ 67 := by decide
  omega
theorem RB.next {r : Nat} {pool b k li : Int} {t : Nat} (h : RB r b) (hp : pool ≤ 60) (hb : 0 ≤ b) (ht : b + t + 1 = li) : RB (r + innS pool b k t) li := by
  have hin := innS_le (k := k) hp hb t
  unfold RB at *
  have e1 : b.toNat * 2 ^ 60 + t * 2 ^ 60 = (b.toNat + t) * 2 ^ 60 := (Nat.add_mul _ _ _).symm
  have e2 : (b.toNat + t) * 2 ^ 60 ≤ li.toNat * 2 ^ 60 := Nat.mul_le_mul_right _ (by omega)
  omega

attribute [local irreducible] PV StepF wpl wpd WP Ret
attribute [local irreducible] Fit RB

theorem c52 (pool : Int) (l : List Int) (s : Option Addr) (c : Nat) (w : World) (hs : SlAt w 1 eI s l) (hl : l.length ≤ 9223372036854775806) :
    Ret Tryd.prog 52 [.int .i64 pool, .slice s l.length c] w (fun v w' => v = .bool (setB pool l) ∧ Keeps [] w w') := by
  refine Ret.of_WP Tryd.func52 rfl Tryd.ntmps52 rfl ?_
  have hp := Hp.start (M := []) (w := w)
  (repeat (first | (with_reducible first | apply WP_seq | apply WP_region | apply wpl_nil | apply thenQ_n) | ((first | apply wlp | (apply wlg; exact rfl; exact rfl)); (intros; ((first | apply pv_move | apply pv_assign | exact pv_or rfl rfl rfl | apply pv_lss | apply pv_gtr) <;> (first | exact rfl | exact ev_sel rfl (by assumption)))); (intros; (first | exact fI rfl | exact fB rfl)))))
  refine WP_cond rfl (fun h => ?_) (fun h => ?_)
  · have hz : setB pool l = false := by
      simp at h
      unfold setB
      rcases h with h | h
      · rw [decide_eq_false (show ¬ 0 ≤ pool by omega)]; rfl
      · rw [decide_eq_false (show ¬ pool ≤ 60 by omega)]; simp
    (repeat (first | (with_reducible first | apply WP_seq | apply WP_region | apply wpl_nil | apply thenQ_n | apply thenQ_ret | apply WP_ret) | (apply wlp; apply pv_assign; exact fB rfl)))
    exact ret_tmp rfl rfl ⟨_, rfl, by rw [hz]; rfl, hp.keeps⟩
  · have hpool : 0 ≤ pool ∧ pool ≤ 60 := by simp at h; omega
    have hB : setB pool l = isU pool l l.length := by
      unfold setB
      rw [decide_eq_true hpool.1, decide_eq_true hpool.2]
      rfl
    clear h
    (repeat (with_reducible first | apply WP_seq | apply WP_region | apply thenQ_n | apply WP_skip))
    (apply wls; exact salloc2 hp (zeroTy_ok rfl); rintro _ w1 ⟨wb, rfl, hp⟩)
    (repeat (first | (with_reducible first | apply WP_seq | apply WP_block | apply WP_region | apply wpl_nil | apply thenQ_n) | (apply wlp; ((first | apply pv_move | (apply pf_len; exact rfl)) <;> exact rfl); (first | exact fI rfl | exact fS rfl))))
    refine WP_loop3 [6, 7, 16, 17, 18, 19, 20, 21, 22, 23, 24, 25, 26, 27, 28, 29, 30, 31, 32, 33, 34, 35, 36, 37, 38, 39, 40, 41, 42, 43, 44, 45, 46, 47, 48, 49] (fun (i : Nat) (_ _ : Bool) F => F.put 16 (.int .i64 (i : Int)))
      (fun i x y w' => i ≤ l.length ∧ (!x && !y) = isU pool l i ∧ Hp w [] w' [blk wb 2 (frOf [.bool x, .bool y]) 102]) (fun i _ _ => l.length - i) 0 false false (put_self (Same.eq .refl) rfl) ⟨Nat.zero_le _, rfl, hp⟩ ?_
    clear hp
    rintro u i x y w2 ⟨hi, hxy, hp⟩
    (repeat (first | (with_reducible first | apply WP_seq | apply WP_region | apply wpl_nil | apply thenQ_n) | (apply wlp; (apply pv_lss <;> exact rfl); exact fB rfl)))
    refine WP_cond_d rfl (fun h2 => ?_) (fun h2 => ?_)
    · have hlt : i < l.length := by omega
      obtain ⟨b0, o0, hs0, hc0⟩ := hs.base (by omega)
      have hci := hc0 i _ (List.getElem?_eq_getElem hlt) 0 _ rfl
      have hgi := getD_at hlt
      generalize l[i] = li at hci hgi
      (repeat (first | (with_reducible first | apply WP_seq | apply WP_block | apply WP_region | apply wpl_nil | apply thenQ_n | apply WP_skip) | (apply wlp; ((first | apply pv_move | apply pv_assign | (apply pf_load; exact rfl) | (apply pf_index; exact rfl) | (apply pf_index_a; exact rfl)) <;> (first | exact rfl | assumption | exact hp.old0 (by assumption))); (first | exact fI rfl | exact fP rfl))))
      (apply wlp; exact pf_index_a (i := 0) rfl rfl rfl (by decide); exact fP rfl)
      (repeat ((first | apply wlp | (apply wlg; exact rfl; exact rfl)); (intros; ((first | apply pv_move | (apply pf_load; exact rfl) | exact pv_or rfl rfl rfl | apply pv_lss | apply pv_gtr | (apply pf_index_a; exact rfl)) <;> (first | exact rfl | exact ev_sel rfl (by assumption) | exact hp.cell 0 rfl rfl))); (intros; (first | exact fI rfl | exact fB rfl))))
      (apply wlp; exact pf_index_a (i := 0) rfl rfl rfl (by decide); exact fP rfl)
      (repeat (first | (with_reducible first | apply WP_region | apply wpl_nil | apply thenQ_n) | (apply wlp; ((apply pf_index_a; exact rfl) <;> exact rfl); skip) | (apply wls0; exact sstore1 hp 0 rfl rfl rfl rfl (sizeTy_ok rfl) rfl; rintro _ w ⟨rfl, hp⟩)))
      (apply wlp; exact pf_index_a (i := 1) rfl rfl rfl (by decide); exact fP rfl)
      have hsx : isU pool l (i + 1) = (isU pool l i && okAt pool l i) := isU_succ pool l i
      unfold okAt at hsx
      rw [hgi, ← hxy] at hsx
      (apply wlp; ((apply pf_load; exact rfl) <;> (first | exact rfl | exact hp.cell 0 rfl rfl)); exact fB rfl)
      cases y with
      | true =>
        (repeat (first | (apply wlp; (intros; ((first | apply pv_move | exact pv_orT rfl | (apply pf_index_a; exact rfl)) <;> exact rfl)); (intros; exact fB rfl)) | (apply wlpF; exact rfl; exact rfl; exact rfl) | (apply wlpU; exact rfl; exact rfl)))
        (apply wlp; exact pf_index_a (i := 1) rfl rfl rfl (by decide); exact fP rfl)
        (repeat (first | (with_reducible first | apply WP_region | apply wpl_nil | apply thenQ_n | apply inBlk_n) | (apply wls0; exact sstore1 hp 0 rfl rfl rfl rfl (sizeTy_ok rfl) rfl; rintro _ w ⟨rfl, hp⟩)))
        (apply wlp; exact pv_add rfl rfl; exact int_eq (i64_in (by omega) (by omega)))
        (repeat (first | (with_reducible first | apply wpl_nil | apply thenQ_n) | (apply wlp; apply pv_move; exact fI rfl)))
        refine ⟨i + 1, _, _, put_self (Same.eq (by repeat (first | exact Same.hav | exact Same.refl | refine Same.put rfl ?_ | refine Same.havs rfl ?_))) rfl, ⟨by omega, ?_, hp⟩, by omega⟩
        rw [hsx]
        simp
      | false =>
        by_cases hi0 : i = 0
        · subst hi0
          (apply wlp; apply pv_move; exact fB rfl)
          ((apply wlpT; exact rfl; exact rfl); (apply pv_move); (intros; exact fI rfl))
          (apply wlpT; exact rfl; exact rfl; (exact pv_gtr rfl rfl); exact bool_eq (b := false) (decide_eq_false (by omega)))
          (repeat (first | (apply wlp; (intros; ((first | apply pv_move | exact pv_andF rfl | exact pv_orF rfl rfl | (apply pf_index_a; exact rfl)) <;> exact rfl)); (intros; exact fB rfl)) | ((apply wlpT; exact rfl; exact rfl); (((first | apply pv_move | exact pv_andF rfl | exact pv_orF rfl rfl | (apply pf_index_a; exact rfl)) <;> exact rfl)); (intros; exact fB rfl)) | (apply wlpF; exact rfl; exact rfl; exact rfl) | (apply wlpU; exact rfl; exact rfl)))
          (apply wlp; exact pf_index_a (i := 1) rfl rfl rfl (by decide); exact fP rfl)
          (repeat (first | (with_reducible first | apply WP_region | apply wpl_nil | apply thenQ_n | apply inBlk_n) | (apply wls0; exact sstore1 hp 0 rfl rfl rfl rfl (sizeTy_ok rfl) rfl; rintro _ w ⟨rfl, hp⟩)))
          (apply wlp; exact pv_add rfl rfl; exact int_eq (i64_in (by omega) (by omega)))
          (repeat (first | (with_reducible first | apply wpl_nil | apply thenQ_n) | (apply wlp; apply pv_move; exact fI rfl)))
          refine ⟨1, _, _, put_self (Same.eq (by repeat (first | exact Same.hav | exact Same.refl | refine Same.put rfl ?_ | refine Same.havs rfl ?_))) rfl, ⟨by omega, ?_, hp⟩, by omega⟩
          rw [hsx]
          rw [Bool.eq_iff_iff]
          cases x <;> simp <;> omega
        · obtain ⟨j, rfl⟩ : ∃ j, i = j + 1 := ⟨i - 1, by omega⟩
          have hltj : j < l.length := by omega
          have hcj := hc0 j _ (List.getElem?_eq_getElem hltj) 0 _ rfl
          have hgj := getD_at hltj
          generalize l[j] = lj at hcj hgj
          rw [Nat.add_sub_cancel, hgj] at hsx
          (apply wlp; apply pv_move; exact fB rfl)
          ((apply wlpT; exact rfl; exact rfl); (apply pv_move); (intros; exact fI rfl))
          (apply wlpT; exact rfl; exact rfl; (exact pv_gtr rfl rfl); exact bool_eq (b := true) (decide_eq_true (by omega)))
          (repeat (first | ((apply wlpT; exact rfl; exact rfl); (apply pv_move); (intros; (first | exact fI rfl | exact fB rfl | exact fS rfl))) | (apply wlpF; exact rfl; exact rfl; exact rfl) | (apply wlpU; exact rfl; exact rfl)))
          (apply wlpT; exact rfl; exact rfl; (exact pv_sub rfl rfl); exact int_eq (b := ((j : Nat) : Int)) (by rw [i64_in (by omega) (by omega)]; omega))
          (repeat (first | (apply wlp; (intros; ((first | (apply pf_load; exact rfl) | exact pv_andT rfl rfl | exact pv_orF rfl rfl | apply pv_leq | (apply pf_index; exact rfl) | (apply pf_index_a; exact rfl)) <;> (first | exact rfl | assumption | exact hp.old0 (by assumption)))); (intros; (first | exact fI rfl | exact fB rfl | exact fP rfl))) | ((apply wlpT; exact rfl; exact rfl); (((first | (apply pf_load; exact rfl) | exact pv_andT rfl rfl | exact pv_orF rfl rfl | apply pv_leq | (apply pf_index; exact rfl) | (apply pf_index_a; exact rfl)) <;> (first | exact rfl | assumption | exact hp.old0 (by assumption)))); (intros; (first | exact fI rfl | exact fB rfl | exact fP rfl))) | (apply wlpF; exact rfl; exact rfl; exact rfl) | (apply wlpU; exact rfl; exact rfl)))
          (apply wlp; exact pf_index_a (i := 1) rfl rfl rfl (by decide); exact fP rfl)
          (repeat (first | (with_reducible first | apply WP_region | apply wpl_nil | apply thenQ_n | apply inBlk_n) | (apply wls0; exact sstore1 hp 0 rfl rfl rfl rfl (sizeTy_ok rfl) rfl; rintro _ w ⟨rfl, hp⟩)))
          (apply wlp; exact pv_add rfl rfl; exact int_eq (i64_in (by omega) (by omega)))
          (repeat (first | (with_reducible first | apply wpl_nil | apply thenQ_n) | (apply wlp; apply pv_move; exact fI rfl)))
          refine ⟨j + 1 + 1, _, _, put_self (Same.eq (by repeat (first | exact Same.hav | exact Same.refl | refine Same.put rfl ?_ | refine Same.havs rfl ?_))) rfl, ⟨by omega, ?_, hp⟩, by omega⟩
          rw [hsx]
          rw [Bool.eq_iff_iff]
          cases x <;> simp <;> omega
    · obtain rfl : i = l.length := by omega
      rw [hB, ← hxy]
      (repeat (first | (with_reducible first | apply WP_seq | apply WP_region | apply thenQ_n | apply thenQ_exit | apply WP_exit) | ((with_reducible apply inBlk_same); exact rfl) | (apply wlp; ((first | (apply pf_loadb; exact rfl) | apply pf_build_a) <;> (first | exact rfl | exact hp.agg_blk 0 rfl rfl)); exact fA2 rfl)))
      (apply wlp; exact pv_eq102 rfl rfl; exact fB rfl)
      (repeat (first | (with_reducible first | apply wpl_nil | apply thenQ_n | apply WP_ret) | (apply wlp; apply pv_assign; exact fB rfl)))
      exact ret_tmp rfl rfl ⟨_, rfl, rfl, hp.keeps⟩

theorem c22 (pool : Int) (l : List Int) (s : Option Addr) (c : Nat) (w : World) (hs : SlAt w 1 eI s l) (hl : l.length ≤ 9223372036854775806) :
    Ret Tryd.prog 22 [.int .i64 pool, .slice s l.length c] w (fun v w' => v = .tuple #[.string (ofN (if setB pool l = true then rkN pool l l.length else 0)), .bool (setB pool l)] ∧ Keeps [] w w') := by
  refine Ret.of_WP Tryd.func22 rfl Tryd.ntmps22 rfl ?_
  have hp := Hp.start (M := []) (w := w)
  (repeat (first | (with_reducible first | apply WP_seq | apply WP_region | apply wpl_nil | apply thenQ_n) | (apply wlp; (first | apply pv_move | apply pv_assign); (first | exact fI rfl | exact fB rfl | exact fS rfl | exact fT rfl))))
  (apply wls; exact st_call rfl ent52 rfl (c52 pool l s c _ hs hl))
  rintro _ w1 ⟨rfl, hk⟩
  have hp := hp.call hk
  cases hB : setB pool l with
  | false =>
    (repeat (first | (with_reducible first | apply wpl_nil | apply thenQ_n) | (apply wlp; (apply pv_not <;> exact rfl); exact fB rfl)))
    refine WP_cond_t rfl ?_
    (repeat (first | (with_reducible first | apply WP_seq | apply WP_region | apply wpl_nil | apply thenQ_n | apply thenQ_ret | apply WP_ret) | (apply wlp; apply pv_assign; (first | exact fB rfl | exact fT rfl))))
    exact ret_tmp2 rfl rfl rfl ⟨_, rfl, rfl, hp.keeps⟩
  | true =>
    have hpool : 0 ≤ pool ∧ pool ≤ 60 ∧ isU pool l l.length = true := by
      unfold setB at hB
      simpa [and_assoc] using hB
    (repeat (first | (with_reducible first | apply wpl_nil | apply thenQ_n) | (apply wlp; (apply pv_not <;> exact rfl); exact fB rfl)))
    refine WP_cond_f rfl ?_
    (repeat (with_reducible first | apply WP_seq | apply WP_region | apply thenQ_n | apply WP_skip))
    (apply wls; exact st_call rfl ent13 rfl (c13 0 _ (by decide)))
    rintro _ w2 ⟨rfl, hk⟩
    have hp := hp.call hk
    (repeat (first | (with_reducible first | apply WP_seq | apply WP_block | apply WP_region | apply wpl_nil | apply thenQ_n) | (apply wlp; ((first | apply pv_move | apply pv_assign | (apply pf_len; exact rfl)) <;> exact rfl); (first | exact fI rfl | exact fS rfl | exact fT rfl))))
    refine WP_loopS [6, 7, 8, 9, 10, 18, 19, 20, 21, 22, 23, 24, 25, 26, 27, 28, 29, 30, 31, 32, 33, 34, 35, 36, 37, 38, 39, 40, 41, 42] (fun (i : Nat) F => ((F.put 18 (.int .i64 (i : Int))).put 6 (.string (ofN (rkN pool l i)))).put 7 (.int .i64 (if i = 0 then 0 else l.getD (i - 1) 0)))
      (fun i w' => i ≤ l.length ∧ RB (rkN pool l i) (if i = 0 then 0 else l.getD (i - 1) 0) ∧ Hp w [] w' []) (fun i => l.length - i) 0 (put_self (put_self (put_self (Same.eq .refl) rfl) rfl) rfl) ⟨Nat.zero_le _, RB.zero _, hp⟩ ?_
    clear hp
    rintro u i w3 ⟨hi, hrk, hp⟩
    (repeat (first | (with_reducible first | apply WP_seq | apply WP_region | apply wpl_nil | apply thenQ_n) | (apply wlp; (apply pv_lss <;> exact rfl); exact fB rfl)))
    refine WP_cond_d rfl (fun h2 => ?_) (fun h2 => ?_)
    · have hlt : i < l.length := by omega
      obtain ⟨b0, o0, hs0, hc0⟩ := hs.base (by omega)
      have hci := hc0 i _ (List.getElem?_eq_getElem hlt) 0 _ rfl
      have hgi := getD_at hlt
      have hsx : rkN pool l (i + 1) = rkN pool l i + innS pool (if i = 0 then 0 else l.getD (i - 1) 0) ((l.length : Int) - i - 1) (l.getD i 0 - (if i = 0 then 0 else l.getD (i - 1) 0) - 1).toNat := rfl
      have hok := isU_at hpool.2.2 hlt
      have hprev : 0 ≤ (if i = 0 then 0 else l.getD (i - 1) 0) ∧ (if i = 0 then 0 else l.getD (i - 1) 0) < l.getD i 0 ∧ l.getD i 0 ≤ pool := by
        unfold okAt at hok
        by_cases hi0 : i = 0
        · subst hi0
          simp at hok ⊢
          omega
        · have hok2 := isU_at hpool.2.2 (j := i - 1) (by omega)
          unfold okAt at hok2
          simp [hi0] at hok hok2 ⊢
          omega
      rw [hgi] at hprev
      rw [hgi] at hsx
      generalize (if i = 0 then 0 else l.getD (i - 1) 0) = b at *
      have hgi2 : (if i + 1 = 0 then 0 else l.getD (i + 1 - 1) 0) = l[i] := by simpa using hgi
      generalize l[i] = li at *
      obtain ⟨h0b, hbl, hlp⟩ := hprev
      (repeat (first | (with_reducible first | apply WP_seq | apply WP_block | apply WP_region | apply wpl_nil | apply thenQ_n | apply WP_skip) | (apply wlp; ((first | apply pv_move | apply pv_assign | (apply pf_load; exact rfl) | (apply pf_index; exact rfl)) <;> (first | exact rfl | assumption | exact hp.old0 (by assumption))); (first | exact fI rfl | exact fP rfl))))
      (apply wlp; exact pv_add rfl rfl; exact int_eq (i64_in (by omega) (by omega)))
      (repeat (first | (with_reducible first | apply WP_block | apply wpl_nil | apply thenQ_n) | (apply wlp; apply pv_assign; exact fI rfl)))
      refine WP_loopS [6, 10, 25, 26, 27, 28, 29, 30, 31, 32, 33, 34, 35, 36, 37, 38, 39, 40] (fun (t : Nat) F => (F.put 6 (.string (ofN (rkN pool l i + innS pool b ((l.length : Int) - i - 1) t)))).put 10 (.int .i64 (b + 1 + t)))
        (fun t w' => b + t + 1 ≤ li ∧ Hp w [] w' []) (fun t => (li - b).toNat - t) 0 (put_self (put_self (Same.eq .refl) rfl) (int_eq (by omega))) ⟨by omega, hp⟩ ?_
      clear hp
      rintro u2 t w4 ⟨ht, hp⟩
      (repeat (first | (with_reducible first | apply WP_seq | apply WP_region | apply wpl_nil | apply thenQ_n) | (apply wlp; ((first | apply pv_move | apply pv_lss) <;> exact rfl); (first | exact fI rfl | exact fB rfl))))
      refine WP_cond_d rfl (fun h3 => ?_) (fun h3 => ?_)
      · have hfit : Fit (rkN pool l i + innS pool b ((l.length : Int) - i - 1) t) := hrk.fit hpool.2.1 h0b (by omega)
        have hfit2 : Fit (chZ (pool - (b + 1 + t)) ((l.length : Int) - i - 1)) := Fit.of (k := 61) (Nat.lt_of_le_of_lt (chZ_le (by omega)) (by decide)) (by decide)
        have hstep : innS pool b ((l.length : Int) - i - 1) (t + 1) = innS pool b ((l.length : Int) - i - 1) t + chZ (pool - (b + 1 + t)) ((l.length : Int) - i - 1) := by
          rw [innS]
          congr 2
          omega
        (repeat (first | (with_reducible first | apply WP_seq | apply WP_block | apply WP_region | apply thenQ_n | apply WP_skip) | (apply wlp; apply pv_move; (first | exact fI rfl | exact fT rfl))))
        (apply wlp; exact pv_sub rfl rfl; exact int_eq (i64_in (by omega) (by omega)))
        (repeat (apply wlp; ((first | apply pv_move | (apply pf_len; exact rfl)) <;> exact rfl); (first | exact fI rfl | exact fS rfl)))
        (apply wlp; exact pv_sub rfl rfl; exact int_eq (i64_in (by omega) (by omega)))
        (apply wlp; exact pv_sub rfl rfl; exact int_eq (i64_in (by omega) (by omega)))
        (apply wls; exact st_call rfl ent12 rfl (c12 (pool - (b + 1 + t)) ((l.length : Int) - i - 1) _ (by omega)))
        rintro _ w5 ⟨rfl, hk⟩
        have hp := hp.call hk
        skip
        (apply wls; exact st_call rfl ent17 rfl (c17 _ _ _ hfit hfit2))
        rintro _ w6 ⟨rfl, hk⟩
        have hp := hp.call hk
        rw [Nat.add_assoc, ← hstep]
        (repeat (first | (with_reducible first | apply WP_region | apply wpl_nil | apply thenQ_n | apply inBlk_n) | (apply wlp; (first | apply pv_move | apply pv_assign); (first | exact fI rfl | exact fT rfl))))
        (apply wlp; exact pv_add rfl rfl; exact int_eq (i64_in (by omega) (by omega)))
        (repeat (first | (with_reducible first | apply wpl_nil | apply thenQ_n) | (apply wlp; apply pv_assign; exact fI rfl)))
        exact ⟨t + 1, put_self (put_self (Same.eq (by repeat (first | exact Same.hav | exact Same.refl | refine Same.put rfl ?_ | refine Same.havs rfl ?_))) rfl) (int_eq (by omega)), ⟨by omega, hp⟩, by omega⟩
      · have ht2 : t = (li - b - 1).toNat := by omega
        rw [ht2, ← hsx]
        (repeat (first | (with_reducible first | apply WP_region | apply wpl_nil | apply thenQ_n | apply inBlk_n | apply thenQ_exit | apply WP_exit) | ((with_reducible apply inBlk_same); exact rfl) | (apply wlp; (first | apply pv_move | apply pv_assign); exact fI rfl)))
        (apply wlp; exact pv_add rfl rfl; exact int_eq (i64_in (by omega) (by omega)))
        (repeat (first | (with_reducible first | apply wpl_nil | apply thenQ_n) | (apply wlp; apply pv_move; exact fI rfl)))
        refine ⟨i + 1, put_self (put_self (put_self (Same.eq (by repeat (first | exact Same.hav | exact Same.refl | refine Same.put rfl ?_ | refine Same.havs rfl ?_))) rfl) rfl) (int_eq hgi2.symm), ⟨by omega, ?_, hp⟩, by omega⟩
        rw [hgi2, hsx, ← ht2]
        exact hrk.next hpool.2.1 h0b (by omega)
    · obtain rfl : i = l.length := by omega
      (repeat (first | (with_reducible first | apply WP_seq | apply WP_region | apply wpl_nil | apply thenQ_n | apply thenQ_exit | apply WP_ret | apply WP_exit) | ((with_reducible apply inBlk_same); exact rfl) | (apply wlp; (first | apply pv_move | apply pv_assign); (first | exact fB rfl | exact fT rfl))))
      exact ret_tmp2 rfl rfl rfl ⟨_, rfl, rfl, hp.keeps⟩
end Go.Proofs.YteklkjnhefnimaaDoor
/- odds: Unrank; conditions: the rank is short. -/
namespace Go.Proofs.YteklkjnhefnimaaDoor
open Go.Eng Go.Dig

/-- plain: the set with a rank among those of m elements of the last P numbers of a pool -/
def un (pool : Nat) : Nat → Nat → Nat → List Int
  | 0, _, _ => []
  | _ + 1, 0, _ => []
  | P + 1, m + 1, r => if r < ch P m then ((pool - P : Nat) : Int) :: un pool P m r else un pool P (m + 1) (r - ch P m)
theorem un_zero (pool P r : Nat) : un pool P 0 r = [] := by cases P <;> rfl
def unB (pool pick : Int) (n : Nat) : Bool := decide (0 ≤ pool) && decide (pool ≤ 60) && decide (n < chZ pool pick)
def unZ (pool pick : Int) (n : Nat) : List Int := if unB pool pick n = true then un pool.toNat pool.toNat pick.toNat n else []
theorem un_len (pool : Nat) : ∀ (P m r : Nat), r < ch P m → (un pool P m r).length = m
  | P, 0, r, _ => by rw [un_zero]; rfl
  | 0, m + 1, r, h => by simp [ch] at h
  | P + 1, m + 1, r, h => by
    rw [un]
    split
    · rename_i h2
      rw [List.length_cons, un_len pool P m r h2]
    · rename_i h2
      exact un_len pool P (m + 1) _ (by rw [ch] at h; omega)

attribute [local irreducible] PV StepF wpl wpd WP Ret
attribute [local irreducible] Fit RB

theorem c48 {w0 w : World} {M : List Nat} (pool pick P m r : Nat) (l : List Int) (bp bk bs bl : Nat) (s : Option Addr) (c : Nat)
    (hp : Hp w0 M w [blk bl 1 (frOf [.string (ofN r)]) 23, blk bs 1 (frOf [.slice s l.length c]) 28, blk bk 1 (frOf [.int .i64 (pick : Int)]) 3, blk bp 1 (frOf [.int .i64 (pool : Int)]) 3, ownL eI 3 1 s c l])
    (hv : SVL s c l) (hP : P < pool) (hpool : pool ≤ 60) (hl : l.length + (m + 1) = pick) (hpk : pick ≤ 60) (hr : Fit r) :
    Ret Tryd.prog 48 [.int .i64 ((pool - P : Nat) : Int), .pointer (some ⟨bp, 0, none⟩), .pointer (some ⟨bk, 0, none⟩), .pointer (some ⟨bs, 0, none⟩), .pointer (some ⟨bl, 0, none⟩)] w
      (fun _ w' => (r < ch P m → ∃ s' c', SVL s' c' (l ++ [((pool - P : Nat) : Int)]) ∧ Hp w0 M w' [blk bl 1 (frOf [.string (ofN r)]) 23, blk bs 1 (frOf [.slice s' (l ++ [((pool - P : Nat) : Int)]).length c']) 28, blk bk 1 (frOf [.int .i64 (pick : Int)]) 3, blk bp 1 (frOf [.int .i64 (pool : Int)]) 3, ownL eI 3 1 s' c' (l ++ [((pool - P : Nat) : Int)])]) ∧
        (¬ r < ch P m → Hp w0 M w' [blk bl 1 (frOf [.string (ofN (r - ch P m))]) 23, blk bs 1 (frOf [.slice s l.length c]) 28, blk bk 1 (frOf [.int .i64 (pick : Int)]) 3, blk bp 1 (frOf [.int .i64 (pool : Int)]) 3, ownL eI 3 1 s c l])) := by
  have hch : chZ (P : Int) (m : Int) = ch P m := chZ_nat (by omega)
  have hfc : Fit (ch P m) := ch_fit (by omega)
  refine Ret.of_WP Tryd.func48 rfl Tryd.ntmps48 rfl ?_
  (repeat (first | (with_reducible first | apply WP_seq | apply WP_region) | (apply wlp; ((first | apply pv_move | (apply pf_load; exact rfl)) <;> (first | exact rfl | exact hp.cell 3 rfl rfl)); exact fI rfl)))
  (apply wlp; exact pv_sub rfl rfl; exact int_eq (b := (P : Int)) (by rw [i64_in (by omega) (by omega)]; omega))
  (repeat (apply wlp; ((first | (apply pf_load; exact rfl) | (apply pf_len; exact rfl)) <;> (first | exact rfl | exact hp.cell 1 rfl rfl | exact hp.cell 2 rfl rfl)); (first | exact fI rfl | exact fS rfl)))
  (apply wlp; (exact pv_sub rfl rfl); exact int_eq (b := ((m + 1 : Nat) : Int)) (by rw [i64_in (by omega) (by omega)]; omega))
  (apply wlp; (exact pv_sub rfl rfl); exact int_eq (b := ((m : Nat) : Int)) (by rw [i64_in (by omega) (by omega)]; omega))
  (apply wls; exact st_call rfl ent12 rfl (c12 (P : Int) (m : Int) _ (by omega)))
  rintro _ w1 ⟨rfl, hk⟩
  have hp := hp.call hk
  rw [hch]
  (repeat (first | (with_reducible first | apply WP_seq | apply WP_region | apply wpl_nil | apply thenQ_n) | (apply wlp; ((first | apply pv_move | apply pv_assign | (apply pf_load; exact rfl)) <;> (first | exact rfl | exact hp.cell 0 rfl rfl)); exact fT rfl)))
  (apply wls; exact st_call rfl ent49 rfl (c49 r (ch P m) _ hr hfc))
  rintro _ w2 ⟨rfl, hk⟩
  have hp := hp.call hk
  (repeat (first | (with_reducible first | apply WP_seq | apply WP_region | apply wpl_nil | apply thenQ_n) | (apply wlp; ((first | apply pv_move | apply pv_assign | apply pv_extract) <;> exact rfl); (first | exact fB rfl | exact fT rfl | exact fU rfl))))
  refine WP_cond_d rfl (fun h => ?_) (fun h => ?_)
  · (repeat (first | (with_reducible first | apply WP_region | apply wpl_nil) | (apply wlp; apply pv_move; exact fT rfl) | (apply wls0; exact sstore1 hp 0 rfl rfl rfl rfl (sizeTy_ok rfl) rfl; rintro _ w ⟨rfl, hp⟩)))
    refine ret_none rfl ⟨_, rfl, fun h2 => absurd h2 (by omega), fun _ => ?_⟩
    exact hp
  · (repeat (first | with_reducible apply WP_region | (apply wlp; ((first | apply pv_move | (apply pf_load; exact rfl)) <;> (first | exact rfl | exact hp.cell 1 rfl rfl)); (first | exact fI rfl | exact fS rfl))))
    (apply wls; exact sf_slice hp rfl rfl rfl rfl rfl rfl rfl; rintro _ w3 ⟨nb, rfl, hp⟩)
    (apply wls; exact sf_app1 eI l ((pool - P : Nat) : Int) hp 5 0 rfl rfl rfl rfl rfl rfl (fun _ => rfl) rfl rfl rfl hv rfl rfl (by omega); rintro _ w4 ⟨s', c', rfl, hv', hp⟩)
    have hp := hp.tail
    (repeat (first | with_reducible apply wpl_nil | (apply wls0; exact sstore1 hp 1 rfl rfl rfl rfl (sizeTy_ok rfl) rfl; rintro _ w ⟨rfl, hp⟩)))
    refine ret_none rfl ⟨_, rfl, fun _ => ⟨s', c', hv', ?_⟩, fun h2 => absurd h2 (by omega)⟩
    exact hp

theorem c19 (pool pick : Int) (n : Nat) (w : World) (hn : Fit n) :
    Ret Tryd.prog 19 [.int .i64 pool, .int .i64 pick, .string (ofN n)] w (fun v w' => ∃ s c, v = .tuple #[.slice s (unZ pool pick n).length c, .bool (unB pool pick n)] ∧ SVL s c (unZ pool pick n) ∧ Hp w [] w' [ownL eI 3 1 s c (unZ pool pick n)]) := by
  have hno : unB pool pick n = false → unZ pool pick n = [] := fun h => by unfold unZ; rw [h]; rfl
  refine Ret.of_WP Tryd.func19 rfl Tryd.ntmps19 rfl ?_
  have hp := (Hp.start (M := []) (w := w)).nilL eI 3 1
  (repeat (with_reducible first | apply WP_seq | apply WP_region))
  (apply wls; exact sbox1 hp rfl rfl; rintro _ w1 ⟨bp, rfl, hp⟩)
  (apply wls; exact sbox1 hp rfl rfl; rintro _ w2 ⟨bk, rfl, hp⟩)
  have hp : Hp w [] w2 [blk bk 1 (frOf [.int .i64 pick]) 3, blk bp 1 (frOf [.int .i64 pool]) 3, ownL eI 3 1 none 0 []] := hp
  skip
  (apply wlp; apply pv_assign; exact fS rfl)
  (apply wlp; apply pv_assign; exact fB rfl)
  (repeat (with_reducible first | apply WP_seq | apply WP_region | apply wpl_nil | apply thenQ_n))
  (apply wlp; ((apply pf_load; exact rfl) <;> (first | exact rfl | exact hp.cell 1 rfl rfl)); exact fI rfl)
  by_cases h0 : pool < 0
  · have hB : unB pool pick n = false := by unfold unB; rw [decide_eq_false (show ¬ 0 ≤ pool by omega)]; rfl
    rw [hB, hno hB]
    (apply wlp; (exact pv_lss rfl rfl); exact bool_eq (b := true) (decide_eq_true (by omega)))
    (repeat (first | (with_reducible first | apply wpl_nil | apply thenQ_n) | (apply wlp; (intros; (first | apply pv_move | exact pv_orT rfl)); (intros; exact fB rfl)) | (apply wlpF; exact rfl; exact rfl; exact rfl) | (apply wlpU; exact rfl; exact rfl)))
    refine WP_cond_t rfl ?_
    (repeat (first | (with_reducible first | apply WP_seq | apply WP_region | apply wpl_nil | apply thenQ_n | apply thenQ_ret | apply WP_ret) | (apply wlp; apply pv_assign; (first | exact fB rfl | exact fS rfl))))
    exact ret_tmp2 rfl rfl rfl ⟨_, rfl, none, 0, rfl, SVL.nil, hp.picks [2] _ rfl rfl⟩
  by_cases h60 : 60 < pool
  · have hB : unB pool pick n = false := by unfold unB; rw [decide_eq_false (show ¬ pool ≤ 60 by omega)]; simp
    rw [hB, hno hB]
    (apply wlp; (exact pv_lss rfl rfl); exact bool_eq (b := false) (decide_eq_false (by omega)))
    (apply wlp; apply pv_move; exact fB rfl)
    ((apply wlpT; exact rfl; exact rfl); (((apply pf_load; exact rfl) <;> (first | exact rfl | exact hp.cell 1 rfl rfl))); (intros; exact fI rfl))
    (apply wlpT; exact rfl; exact rfl; (exact pv_gtr rfl rfl); exact bool_eq (b := true) (decide_eq_true (by omega)))
    (repeat (first | (with_reducible first | apply wpl_nil | apply thenQ_n) | (apply wlp; (intros; (first | apply pv_move | exact pv_orT rfl | exact pv_orF rfl rfl)); (intros; exact fB rfl)) | (apply wlpF; exact rfl; exact rfl; exact rfl) | (apply wlpU; exact rfl; exact rfl)))
    refine WP_cond_t rfl ?_
    (repeat (first | (with_reducible first | apply WP_seq | apply WP_region | apply wpl_nil | apply thenQ_n | apply thenQ_ret | apply WP_ret) | (apply wlp; apply pv_assign; (first | exact fB rfl | exact fS rfl))))
    exact ret_tmp2 rfl rfl rfl ⟨_, rfl, none, 0, rfl, SVL.nil, hp.picks [2] _ rfl rfl⟩
  have hfc : Fit (chZ pool pick) := Fit.of (k := 61) (Nat.lt_of_le_of_lt (chZ_le (by omega)) (by decide)) (by decide)
  have hBc : unB pool pick n = decide (n < chZ pool pick) := by
    unfold unB
    rw [decide_eq_true (show 0 ≤ pool by omega), decide_eq_true (show pool ≤ 60 by omega)]
    rfl
  (apply wlp; (exact pv_lss rfl rfl); exact bool_eq (b := false) (decide_eq_false (by omega)))
  (apply wlp; apply pv_move; exact fB rfl)
  ((apply wlpT; exact rfl; exact rfl); (((apply pf_load; exact rfl) <;> (first | exact rfl | exact hp.cell 1 rfl rfl))); (intros; exact fI rfl))
  (apply wlpT; exact rfl; exact rfl; (exact pv_gtr rfl rfl); exact bool_eq (b := false) (decide_eq_false (by omega)))
  (repeat (first | (apply wlp; (intros; ((first | apply pv_move | (apply pf_load; exact rfl) | exact pv_orF rfl rfl) <;> (first | exact rfl | exact hp.cell 0 rfl rfl | exact hp.cell 1 rfl rfl))); (intros; (first | exact fI rfl | exact fB rfl | exact fT rfl))) | ((apply wlpT; exact rfl; exact rfl); (((first | apply pv_move | (apply pf_load; exact rfl) | exact pv_orF rfl rfl) <;> (first | exact rfl | exact hp.cell 0 rfl rfl | exact hp.cell 1 rfl rfl))); (intros; (first | exact fI rfl | exact fB rfl | exact fT rfl))) | (apply wlpF; exact rfl; exact rfl; exact rfl) | (apply wlpU; exact rfl; exact rfl)))
  (apply wlsT; exact rfl; exact rfl; exact st_call rfl ent12 rfl (c12 pool pick _ (by omega)); rintro _ w3 ⟨rfl, hk⟩; have hp := hp.call hk)
  (apply wlsT; exact rfl; exact rfl; exact st_call rfl ent47 rfl (c47 n (chZ pool pick) _ hn hfc); rintro _ w4 ⟨rfl, hk⟩; have hp := hp.call hk)
  by_cases hlt : n < chZ pool pick
  · rw [if_pos hlt]
    (repeat (first | (with_reducible first | apply wpl_nil | apply thenQ_n) | (apply wlp; (intros; ((first | exact pv_orF rfl rfl | apply pv_geq) <;> exact rfl)); (intros; exact fB rfl)) | ((apply wlpT; exact rfl; exact rfl); (((first | exact pv_orF rfl rfl | apply pv_geq) <;> exact rfl)); (intros; exact fB rfl)) | (apply wlpF; exact rfl; exact rfl; exact rfl) | (apply wlpU; exact rfl; exact rfl)))
    refine WP_cond_f rfl ?_
    have hB : unB pool pick n = true := by rw [hBc]; exact decide_eq_true hlt
    have hZ : unZ pool pick n = un pool.toNat pool.toNat pick.toNat n := by unfold unZ; rw [if_pos hB]
    rw [hB, hZ]
    have hpk : 0 ≤ pick ∧ pick ≤ pool := by
      by_cases hc : pool < 0 ∨ pool > 1000 ∨ pick < 0 ∨ pick > pool
      · rw [chZ_zero hc] at hlt; omega
      · omega
    obtain ⟨N, rfl⟩ : ∃ N : Nat, pool = N := ⟨pool.toNat, by omega⟩
    obtain ⟨K, rfl⟩ : ∃ K : Nat, pick = K := ⟨pick.toNat, by omega⟩
    rw [chZ_nat (by omega)] at hlt
    simp only [Int.toNat_natCast]
    (repeat (with_reducible first | apply WP_seq | apply WP_region | apply thenQ_n | apply WP_skip))
    (apply wls; exact salloc1 hp (zeroTy_ok rfl) rfl; rintro _ w5 ⟨bs, rfl, hp⟩)
    (repeat (with_reducible first | apply WP_seq | apply WP_region | apply wpl_nil | apply thenQ_n))
    (apply wlp; apply pv_move; exact fT rfl)
    (apply wls; exact salloc1 hp (zeroTy_ok rfl) rfl; rintro _ w6 ⟨bl, rfl, hp⟩)
    (apply wls0; exact sstore1 hp 0 rfl rfl rfl rfl (sizeTy_ok rfl) rfl; rintro _ w7 ⟨rfl, hp⟩)
    have hp : Hp w [] w7 [blk bl 1 (frOf [.string (ofN n)]) 23, blk bs 1 (frOf [.slice none ([] : List Int).length 0]) 28, blk bk 1 (frOf [.int .i64 (K : Int)]) 3, blk bp 1 (frOf [.int .i64 (N : Int)]) 3, ownL eI 3 1 none 0 []] := hp.norm 0 [.string (ofN n)] rfl rfl
    (repeat (first | (with_reducible first | apply WP_seq | apply WP_block | apply WP_region | apply wpl_nil | apply thenQ_n) | (apply wlp; (first | apply pv_assign | apply pv_func); (first | exact fI rfl | exact fF rfl))))
    refine WP_loopS [11, 28, 29, 30, 31, 32, 33, 34, 35, 36] (fun (P : Nat) F => F.put 11 (.int .i64 ((N : Int) - P + 1)))
      (fun P w' => P ≤ N ∧ ∃ m r l s c, l.length + m = K ∧ r ≤ n ∧ r < ch P m ∧ l ++ un N P m r = un N N K n ∧ SVL s c l ∧ Hp w [] w' [blk bl 1 (frOf [.string (ofN r)]) 23, blk bs 1 (frOf [.slice s l.length c]) 28, blk bk 1 (frOf [.int .i64 (K : Int)]) 3, blk bp 1 (frOf [.int .i64 (N : Int)]) 3, ownL eI 3 1 s c l])
      (fun P => P) N (put_self (Same.eq .refl) (int_eq (by omega))) ⟨Nat.le_refl _, K, n, [], none, 0, by simp, Nat.le_refl _, hlt, rfl, SVL.nil, hp⟩ ?_
    clear hp
    rintro u P w8 ⟨hP, m, r, l, s, c, hlm, hrn, hrc, hl, hv, hp⟩
    (repeat (first | (with_reducible first | apply WP_seq | apply WP_region | apply wpl_nil | apply thenQ_n) | (apply wlp; ((first | (apply pf_load; exact rfl) | (apply pf_len; exact rfl) | apply pv_lss) <;> (first | exact rfl | exact hp.cell 1 rfl rfl | exact hp.cell 2 rfl rfl)); (first | exact fI rfl | exact fB rfl | exact fS rfl))))
    refine WP_cond_d rfl (fun h3 => ?_) (fun h3 => ?_)
    · obtain ⟨m, rfl⟩ : ∃ m', m = m' + 1 := ⟨m - 1, by omega⟩
      obtain ⟨P, rfl⟩ : ∃ P', P = P' + 1 := by
        cases P with
        | zero => simp [ch] at hrc
        | succ P => exact ⟨P, rfl⟩
      have ev : (N : Int) - ((P + 1 : Nat) : Int) + 1 = ((N - P : Nat) : Int) := by omega
      rw [ev]
      rw [un] at hl
      rw [ch] at hrc
      (repeat (first | (with_reducible first | apply WP_seq | apply WP_block | apply WP_region | apply thenQ_n | apply WP_skip) | (apply wlp; apply pv_move; (first | exact fI rfl | exact fF rfl))))
      (apply wls; exact st_call rfl ent48 rfl (c48 N K P m r l bp bk bs bl s c hp hv (by omega) (by omega) hlm (by omega) (hn.le hrn)); rintro _ w9 ⟨hA, hB2⟩)
      by_cases hc : r < ch P m
      · obtain ⟨s', c', hv', hp⟩ := hA hc
        rw [if_pos hc] at hl
        (repeat (first | (with_reducible first | apply WP_region | apply wpl_nil | apply thenQ_n | apply inBlk_n) | (apply wlp; apply pv_move; exact fI rfl)))
        (apply wlp; exact pv_add rfl rfl; exact int_eq (i64_in (by omega) (by omega)))
        (repeat (first | (with_reducible first | apply wpl_nil | apply thenQ_n) | (apply wlp; apply pv_assign; exact fI rfl)))
        exact ⟨P, put_self (Same.eq (by repeat (first | exact Same.hav | exact Same.refl | refine Same.put rfl ?_ | refine Same.havs rfl ?_))) (int_eq (by omega)), ⟨by omega, m, r, _, s', c', by simp; omega, hrn, hc, by rw [List.append_assoc]; exact hl, hv', hp⟩, by omega⟩
      · have hp := hB2 hc
        rw [if_neg hc] at hl
        (repeat (first | (with_reducible first | apply WP_region | apply wpl_nil | apply thenQ_n | apply inBlk_n) | (apply wlp; apply pv_move; exact fI rfl)))
        (apply wlp; exact pv_add rfl rfl; exact int_eq (i64_in (by omega) (by omega)))
        (repeat (first | (with_reducible first | apply wpl_nil | apply thenQ_n) | (apply wlp; apply pv_assign; exact fI rfl)))
        exact ⟨P, put_self (Same.eq (by repeat (first | exact Same.hav | exact Same.refl | refine Same.put rfl ?_ | refine Same.havs rfl ?_))) (int_eq (by omega)), ⟨by omega, m + 1, _, _, s, c, by omega, by omega, by omega, hl, hv, hp⟩, by omega⟩
    · obtain rfl : m = 0 := by omega
      rw [un_zero, List.append_nil] at hl
      subst hl
      (repeat (first | (with_reducible first | apply WP_seq | apply WP_region | apply wpl_nil | apply thenQ_n | apply thenQ_exit | apply WP_ret | apply WP_exit) | ((with_reducible apply inBlk_same); exact rfl) | (apply wlp; ((first | apply pv_assign | (apply pf_load; exact rfl)) <;> (first | exact rfl | exact hp.cell 1 rfl rfl)); (first | exact fB rfl | exact fS rfl))))
      exact ret_tmp2 rfl rfl rfl ⟨_, rfl, s, c, rfl, hv, hp.picks [4] _ rfl rfl⟩
  · have hB : unB pool pick n = false := by rw [hBc]; exact decide_eq_false hlt
    rw [hB, hno hB, if_neg hlt]
    (apply wlpT; exact rfl; exact rfl; exact pv_geq rfl rfl; exact bool_eq (b := true) (decide_eq_true (by split <;> omega)))
    (repeat (first | (with_reducible first | apply wpl_nil | apply thenQ_n) | (apply wlp; (intros; exact pv_orF rfl rfl); (intros; exact fB rfl)) | (apply wlpF; exact rfl; exact rfl; exact rfl) | (apply wlpU; exact rfl; exact rfl)))
    refine WP_cond_t rfl ?_
    (repeat (first | (with_reducible first | apply WP_seq | apply WP_region | apply wpl_nil | apply thenQ_n | apply thenQ_ret | apply WP_ret) | (apply wlp; apply pv_assign; (first | exact fB rfl | exact fS rfl))))
    exact ret_tmp2 rfl rfl rfl ⟨_, rfl, none, 0, rfl, SVL.nil, hp.picks [2] _ rfl rfl⟩
end Go.Proofs.YteklkjnhefnimaaDoor
/- odds: Match; conditions: the lists lie in memory. -/
namespace Go.Proofs.YteklkjnhefnimaaDoor
open Go.Eng Go.Dig

/-- what the map of Match holds: the picks, and which of them are still open -/
def opn (a b : List Int) (j : Nat) : Int → Option Value := fun x => if x ∈ a then some (.bool (decide (x ∉ b.take j))) else none
theorem opn_get (a b : List Int) (j : Nat) (x : Int) : (opn a b j x).getD (.bool false) = .bool (decide (x ∈ a ∧ x ∉ b.take j)) := by
  unfold opn
  by_cases h : x ∈ a <;> simp [h]
theorem opn_zero (a b : List Int) : setF (fun x => decide (x ∈ a)) = opn a b 0 := by
  funext x
  unfold setF opn
  by_cases h : x ∈ a <;> simp [h]
theorem opn_put {a b : List Int} {j : Nat} {x : Int} (hx : b[j]? = some x) (h : x ∈ a ∧ x ∉ b.take j) : (fun y => if y = x then some (.bool false) else opn a b j y) = opn a b (j + 1) := by
  funext y
  have hl : j < b.length := (List.getElem?_eq_some_iff.1 hx).1
  have hx2 : b[j] = x := (List.getElem?_eq_some_iff.1 hx).2
  unfold opn
  rw [List.take_succ_eq_append_getElem hl, hx2]
  by_cases hy : y = x
  · subst hy
    simp [h.1]
  · by_cases h2 : y ∈ a <;> simp [hy, h2]
theorem opn_same {a b : List Int} {j : Nat} {x : Int} (hx : b[j]? = some x) (h : ¬ (x ∈ a ∧ x ∉ b.take j)) : opn a b j = opn a b (j + 1) := by
  funext y
  have hl : j < b.length := (List.getElem?_eq_some_iff.1 hx).1
  have hx2 : b[j] = x := (List.getElem?_eq_some_iff.1 hx).2
  unfold opn
  rw [List.take_succ_eq_append_getElem hl, hx2]
  by_cases h2 : y ∈ a
  · by_cases hy : y = x
    · subst hy
      have h3 : y ∈ b.take j := by
        by_cases h3 : y ∈ b.take j
        · exact h3
        · exact absurd ⟨h2, h3⟩ h
      simp [h2, h3]
    · simp [h2, hy]
  · simp [h2]

attribute [local irreducible] PV StepF wpl wpd WP Ret

theorem c25 (a b : List Int) (s s2 : Option Addr) (c c2 : Nat) (w : World) (hs : SlAt w 1 eI s a) (hs2 : SlAt w 1 eI s2 b) (hla : a.length ≤ 9223372036854775806) (hlb : b.length ≤ 9223372036854775806) :
    Ret Tryd.prog 25 [.slice s a.length c, .slice s2 b.length c2] w (fun v w' => v = .int .i64 (matchN a b : Int) ∧ Keeps [] w w') := by
  refine Ret.of_WP Tryd.func25 rfl Tryd.ntmps25 rfl ?_
  have hp := Hp.start (M := []) (w := w)
  (repeat (first | (with_reducible first | apply WP_seq | apply WP_region | apply wpl_nil | apply thenQ_n) | (apply wlp; apply pv_assign; exact fI rfl)))
  (apply wls; exact st_makemap kInt hp; rintro _ w1 ⟨mb, rfl, hp⟩)
  rw [← setF_none (fun (x : Int) => decide (x ∈ a.take 0)) (by simp)] at hp
  (repeat (first | (with_reducible first | apply WP_seq | apply WP_block | apply WP_region | apply wpl_nil | apply thenQ_n) | (apply wlp; ((first | apply pv_move | apply pv_assign | (apply pf_len; exact rfl)) <;> exact rfl); (first | exact fI rfl | exact fS rfl | exact fM rfl))))
  refine WP_loopS [7, 14, 15, 16, 17, 18, 19, 20] (fun (i : Nat) F => F.put 14 (.int .i64 (i : Int))) (fun i w' => i ≤ a.length ∧ Hp w [] w' [mapE kInt mb (setF (fun (x : Int) => decide (x ∈ a.take i)))]) (fun i => a.length - i) 0 (put_self (Same.eq .refl) rfl) ⟨Nat.zero_le _, hp⟩ ?_
  clear hp
  rintro u i w2 ⟨hi, hp⟩
  (repeat (first | (with_reducible first | apply WP_seq | apply WP_region | apply wpl_nil | apply thenQ_n) | (apply wlp; (apply pv_lss <;> exact rfl); exact fB rfl)))
  refine WP_cond_d rfl (fun h2 => ?_) (fun h2 => ?_)
  · have hlt : i < a.length := by omega
    obtain ⟨b0, o0, hs0, hc0⟩ := hs.base (by omega)
    have hci := hc0 i _ (List.getElem?_eq_getElem hlt) 0 _ rfl
    (repeat (first | (with_reducible first | apply WP_seq | apply WP_block | apply WP_region | apply wpl_nil | apply thenQ_n | apply WP_skip) | (apply wlp; ((first | apply pv_move | apply pv_assign | (apply pf_load; exact rfl) | (apply pf_index; exact rfl)) <;> (first | exact rfl | assumption | exact hp.old0 (by assumption))); (first | exact fI rfl | exact fP rfl | exact fM rfl))))
    (apply wls0; exact st_setadd hp 0 rfl rfl rfl rfl (mapTyI_ok (t := 85) rfl).1 (mapTyI_ok (t := 85) rfl).2.1; rintro _ w3 ⟨rfl, hp⟩)
    have e : (fun x => decide (x = a[i]) || decide (x ∈ a.take i)) = (fun (x : Int) => decide (x ∈ a.take (i + 1))) := by
      funext x
      rw [List.take_succ_eq_append_getElem hlt, Bool.eq_iff_iff]
      simp only [Bool.or_eq_true, decide_eq_true_eq, List.mem_append, List.mem_singleton]
      exact or_comm
    rw [e] at hp
    (repeat (with_reducible first | apply WP_region | apply wpl_nil | apply thenQ_n | apply inBlk_n))
    (apply wlp; exact pv_add rfl rfl; exact int_eq (i64_in (by omega) (by omega)))
    (repeat (first | (with_reducible first | apply wpl_nil | apply thenQ_n) | (apply wlp; apply pv_move; exact fI rfl)))
    exact ⟨i + 1, put_self (Same.eq (by repeat (first | exact Same.hav | exact Same.refl | refine Same.put rfl ?_ | refine Same.havs rfl ?_))) rfl, ⟨by omega, hp⟩, by omega⟩
  · obtain rfl : i = a.length := by omega
    rw [List.take_length, opn_zero a b] at hp
    (repeat (first | (with_reducible first | apply WP_seq | apply WP_block | apply WP_region | apply wpl_nil | apply thenQ_n | apply thenQ_exit | apply WP_exit) | ((with_reducible apply inBlk_same); exact rfl) | (apply wlp; ((first | apply pv_move | apply pv_assign | (apply pf_len; exact rfl)) <;> exact rfl); (first | exact fI rfl | exact fS rfl))))
    refine WP_loopS [8, 10, 23, 24, 25, 26, 27, 28, 29, 30, 31, 32, 33, 34] (fun (j : Nat) F => (F.put 23 (.int .i64 (j : Int))).put 8 (.int .i64 ((el b a j).length : Int))) (fun j w' => j ≤ b.length ∧ Hp w [] w' [mapE kInt mb (opn a b j)]) (fun j => b.length - j) 0 (put_self (put_self (Same.eq .refl) rfl) rfl) ⟨Nat.zero_le _, hp⟩ ?_
    clear hp
    rintro u2 j w3 ⟨hj, hp⟩
    (repeat (first | (with_reducible first | apply WP_seq | apply WP_region | apply wpl_nil | apply thenQ_n) | (apply wlp; (apply pv_lss <;> exact rfl); exact fB rfl)))
    refine WP_cond_d rfl (fun h3 => ?_) (fun h3 => ?_)
    · have hlt : j < b.length := by omega
      obtain ⟨b0, o0, hs0, hc0⟩ := hs2.base (by omega)
      have hgj := List.getElem?_eq_getElem hlt
      have hcj := hc0 j _ hgj 0 _ rfl
      have hel := el_succ (b := a) hgj
      have hle := el_len b a j
      generalize b[j] = x at hcj hgj hel
      (repeat (first | (with_reducible first | apply WP_seq | apply WP_block | apply WP_region | apply wpl_nil | apply thenQ_n | apply WP_skip) | (apply wlp; ((first | apply pv_move | apply pv_assign | (apply pf_load; exact rfl) | (apply pf_index; exact rfl)) <;> (first | exact rfl | assumption | exact hp.old0 (by assumption))); (first | exact fI rfl | exact fP rfl | exact fM rfl))))
      (apply wlp; exact pv_lookup hp 0 rfl rfl rfl (mapTyI_ok (t := 85) rfl).1 (mapTyI_ok (t := 85) rfl).2.1 (mapTyI_ok (t := 85) rfl).2.2; exact opn_get _ _ _ _)
      (repeat (with_reducible first | apply wpl_nil | apply thenQ_n))
      refine WP_cond_d rfl (fun h => ?_) (fun h => ?_)
      · rw [if_pos h] at hel
        (repeat (first | (with_reducible first | apply WP_seq | apply WP_region) | (apply wlp; apply pv_move; (first | exact fI rfl | exact fM rfl))))
        (apply wls0; exact st_mapput (v := .bool false) hp 0 rfl rfl rfl rfl (mapTyI_ok (t := 85) rfl).1 (mapTyI_ok (t := 85) rfl).2.1; rintro _ w4 ⟨rfl, hp⟩)
        rw [opn_put hgj h] at hp
        (repeat (first | (with_reducible first | apply WP_region | apply wpl_nil | apply thenQ_n) | (apply wlp; apply pv_move; exact fI rfl)))
        (apply wlp; exact pv_add rfl rfl; exact int_eq (i64_in (by omega) (by omega)))
        (repeat (first | (with_reducible first | apply WP_region | apply wpl_nil | apply thenQ_n | apply inBlk_n) | (apply wlp; apply pv_assign; exact fI rfl)))
        (apply wlp; exact pv_add rfl rfl; exact int_eq (i64_in (by omega) (by omega)))
        (repeat (first | (with_reducible first | apply wpl_nil | apply thenQ_n) | (apply wlp; apply pv_move; exact fI rfl)))
        exact ⟨j + 1, put_self (put_self (Same.eq (by repeat (first | exact Same.hav | exact Same.refl | refine Same.put rfl ?_ | refine Same.havs rfl ?_))) rfl) (int_eq (by rw [hel]; rfl)), ⟨by omega, hp⟩, by omega⟩
      · rw [if_neg h] at hel
        rw [opn_same hgj h] at hp
        (repeat (with_reducible first | apply WP_region | apply thenQ_n | apply inBlk_n | apply WP_skip))
        (apply wlp; exact pv_add rfl rfl; exact int_eq (i64_in (by omega) (by omega)))
        (repeat (first | (with_reducible first | apply wpl_nil | apply thenQ_n) | (apply wlp; apply pv_move; exact fI rfl)))
        exact ⟨j + 1, put_self (put_self (Same.eq (by repeat (first | exact Same.hav | exact Same.refl | refine Same.put rfl ?_ | refine Same.havs rfl ?_))) rfl) (int_eq (by rw [hel]; rfl)), ⟨by omega, hp⟩, by omega⟩
    · obtain rfl : j = b.length := by omega
      (repeat (first | (with_reducible first | apply WP_seq | apply WP_region | apply wpl_nil | apply thenQ_n | apply thenQ_exit | apply WP_ret | apply WP_exit) | ((with_reducible apply inBlk_same); exact rfl) | (apply wlp; (first | apply pv_move | apply pv_assign); exact fI rfl)))
      exact ret_tmp rfl rfl ⟨_, rfl, by rw [matchN_comm a b]; rfl, hp.keeps⟩
end Go.Proofs.YteklkjnhefnimaaDoor
/- nat: Right; ratio: right, value, reduce, Make, Of; conditions: numbers that are not negative, in lowest terms where they are arguments. -/
namespace Go.Proofs.YteklkjnhefnimaaDoor
open Go.Eng Go.Dig

/-- a rational number that is not negative, as it is held -/
def RV (n d : Nat) : Value := .agg #[.bool false, .string (ofN n), .string (ofN d)]
theorem ofN_eq (m n : Nat) : decide (ofN m = ofN n) = decide (m = n) := by
  by_cases h : m = n
  · subst h; simp
  · rw [decide_eq_false h, decide_eq_false (fun e => h (ofN_inj e))]
theorem ofN_one : ofN 1 = ⟨#[1]⟩ := rfl
theorem ofN_top {n : Nat} (h : n ≠ 0) : 0 < (ofN n).size ∧ bAt (ofN n) 0 ≠ 0 := by
  rcases snoc_cases (digs 256 n) with h0 | ⟨m, d, h1⟩
  · exact absurd ((digs_eq_nil (by decide)).1 h0) h
  · have h2 := digs_last (by decide) n m d h1
    have h3 : d < 256 := digs_bd (by decide) n d (by rw [h1]; simp)
    refine ⟨by rw [ofN_size, h1]; simp, ?_⟩
    unfold bAt ofN
    rw [h1]
    simp
    omega
theorem run_cellRes2 {n : Nat} {F : Fr} {w : World} {fn : Func} {p ty b o k t : Nat} {vs : List Value} {v2 : Value} (h : fn.results = #[.cell p ty, .tmp t]) (h1 : manyTy ty = some k) (hz : sizeTy ty = some k) (hx : ev n F (.tmp p) = .pointer (some ⟨b, o, none⟩)) (hv2 : ev n F (.tmp t) = v2) (hl : vs.length = k)
    (hc : ∀ (j : Nat) (v : Value), vs[j]? = some v → w.cell? ⟨b, o + j, none⟩ = some v) : (results fn (act n F).tmps).run Tryd.prog w = .ok (.tuple #[.agg vs.toArray, v2]) w := by
  obtain ⟨q, hq, hq1⟩ := manyTy_ok h1
  have hk := sizeTy_ok hz
  subst hl
  have := run_loadFrom (P := Tryd.prog) (w := w) b o vs 0 #[] (fun j v hv => by simpa using hc j v hv)
  have hx' : (act n F).tmps.getD p undef = .pointer (some ⟨b, o, none⟩) := by
    rw [← hx, ← act_eval]
    rfl
  have hx2 : (act n F).tmps[p]?.getD undef = .pointer (some ⟨b, o, none⟩) := by simpa using hx'
  have hy' : (act n F).tmps.getD t undef = v2 := by
    rw [← hv2, ← act_eval]
    rfl
  have hy2 : (act n F).tmps[t]?.getD undef = v2 := by simpa using hy'
  simp [results, h, hx2, hy2, asAddr, loadVar, run_many hq hq1, loadCells, hk.run, this]
theorem ret_cell2 {n : Nat} {F : Fr} {w : World} {fn : Func} {R : Ending → World → Prop} {p ty b o k t : Nat} {v2 : Value} {f : Fr} (h : fn.results = #[.cell p ty, .tmp t]) (h1 : manyTy ty = some k) (hz : sizeTy ty = some k) (hx : ev n F (.tmp p) = .pointer (some ⟨b, o, none⟩)) (hv2 : ev n F (.tmp t) = v2)
    (hc : ∀ (j : Nat) (v : Value), ((List.range k).map fun j => f (o + j))[j]? = some v → w.cell? ⟨b, o + j, none⟩ = some v) (hr : R (.returned (.tuple #[.agg ((List.range k).map fun j => f (o + j)).toArray, v2])) w) : retQ Tryd.prog n fn R .ret F w :=
  ⟨_, run_cellRes2 h h1 hz hx hv2 (by simp) hc, hr⟩

attribute [local irreducible] PV StepF wpl wpd WP Ret
attribute [local irreducible] Fit RB

theorem c81 (x : Nat) (w : World) : Ret Tryd.prog 81 [.string (ofN x)] w (fun v w' => v = .bool true ∧ Keeps [] w w') := by
  have he := ofN_eq x 0
  refine Ret.of_WP Tryd.func81 rfl Tryd.ntmps81 rfl ?_
  have hp := Hp.start (M := []) (w := w)
  (repeat (with_reducible first | apply WP_seq | apply WP_region))
  (apply wlp; apply pv_assign; exact fB rfl)
  (repeat (with_reducible first | apply WP_seq | apply WP_region | apply wpl_nil | apply thenQ_n))
  (apply wlp; apply pv_move; exact fT rfl)
  by_cases h0 : x = 0
  · subst h0
    (apply wlp; exact pv_seql rfl rfl; exact bool_eq (b := true) rfl)
    (repeat (first | (with_reducible first | apply wpl_nil | apply thenQ_n | apply WP_ret) | (apply wlp; (intros; (first | apply pv_move | apply pv_assign | exact pv_orT rfl)); (intros; exact fB rfl)) | (apply wlpF; exact rfl; exact rfl; exact rfl) | (apply wlpU; exact rfl; exact rfl)))
    exact ret_tmp rfl rfl ⟨_, rfl, rfl, hp.keeps⟩
  · obtain ⟨hsz, hb⟩ := ofN_top h0
    (apply wlp; exact pv_seql rfl rfl; exact bool_eq (b := false) (he.trans (decide_eq_false h0)))
    (apply wlp; apply pv_move; exact fB rfl)
    ((apply wlpT; exact rfl; exact rfl); (apply pv_move); (intros; exact fT rfl))
    (apply wlpT; exact rfl; exact rfl; exact pf_index_s (i := 0) rfl rfl rfl hsz; exact fI rfl)
    (apply wlpT; exact rfl; exact rfl; exact pv_neq rfl rfl; exact bool_eq (b := true) (ndt hb))
    (repeat (first | (with_reducible first | apply wpl_nil | apply thenQ_n | apply WP_ret) | (apply wlp; (intros; (first | apply pv_assign | exact pv_orF rfl rfl)); (intros; exact fB rfl)) | (apply wlpF; exact rfl; exact rfl; exact rfl) | (apply wlpU; exact rfl; exact rfl)))
    exact ret_tmp rfl rfl ⟨_, rfl, rfl, hp.keeps⟩
theorem c82 (n d : Nat) (w : World) (hn : Fit n) (hd : Fit d) (hd0 : 0 < d) (hg : Nat.gcd n d = 1) : Ret Tryd.prog 82 [RV n d] w (fun v w' => v = .bool true ∧ Keeps [] w w') := by
  have he := ofN_eq d 0
  have hen := ofN_eq n 0
  refine Ret.of_WP Tryd.func82 rfl Tryd.ntmps82 rfl ?_
  have hp := Hp.start (M := []) (w := w)
  (repeat (first | (with_reducible first | apply WP_seq | apply WP_region | apply wpl_nil | apply thenQ_n) | (apply wlp; ((first | apply pv_assign | apply pf_field | (apply pf_load; exact rfl)) <;> (first | exact rfl | exact hp.cell 0 rfl rfl)); (first | exact fB rfl | exact fP rfl | exact fT rfl)) | (apply wls; exact sbox3 hp rfl; rintro _ w ⟨b, rfl, hp⟩)))
  (apply wls; exact st_call rfl ent81 rfl (c81 n _))
  rintro _ w1 ⟨rfl, hk⟩
  have hp := hp.call hk
  (repeat (first | (apply wlp; (intros; ((first | apply pv_move | apply pf_field | (apply pf_load; exact rfl) | apply pv_not) <;> (first | exact rfl | exact hp.cell 0 rfl rfl))); (intros; (first | exact fB rfl | exact fP rfl | exact fT rfl))) | ((apply wlpT; exact rfl; exact rfl); (((first | apply pv_move | apply pf_field | (apply pf_load; exact rfl) | apply pv_not) <;> (first | exact rfl | exact hp.cell 0 rfl rfl))); (intros; (first | exact fB rfl | exact fP rfl | exact fT rfl))) | (apply wlpF; exact rfl; exact rfl; exact rfl) | (apply wlpU; exact rfl; exact rfl)))
  (apply wlsT; exact rfl; exact rfl; exact st_call rfl ent81 rfl (c81 d _); rintro _ w2 ⟨rfl, hk⟩; have hp := hp.call hk)
  (repeat (first | (with_reducible first | apply wpl_nil | apply thenQ_n) | (apply wlp; (intros; ((first | apply pv_move | apply pf_field | (apply pf_load; exact rfl) | exact pv_orF rfl rfl | apply pv_not | (apply pv_seql; (first | exact rfl | exact ev_sel rfl (by assumption)))) <;> (first | exact rfl | exact hp.cell 0 rfl rfl))); (intros; (first | exact fB rfl | exact fP rfl | exact fT rfl))) | ((apply wlpT; exact rfl; exact rfl); (((first | apply pv_move | apply pf_field | (apply pf_load; exact rfl) | exact pv_orF rfl rfl | apply pv_not | (apply pv_seql; (first | exact rfl | exact ev_sel rfl (by assumption)))) <;> (first | exact rfl | exact hp.cell 0 rfl rfl))); (intros; (first | exact fB rfl | exact fP rfl | exact fT rfl))) | (apply wlpF; exact rfl; exact rfl; exact rfl) | (apply wlpU; exact rfl; exact rfl)))
  refine WP_cond_d rfl (fun h => absurd (ofN_inj (n := 0) h) (by omega)) (fun _ => ?_)
  (repeat (with_reducible first | apply WP_seq | apply WP_region | apply thenQ_n | apply WP_skip))
  (apply wlp; (apply pf_field <;> exact rfl); exact fP rfl)
  (apply wlp; ((apply pf_load; exact rfl) <;> (first | exact rfl | exact hp.cell 0 rfl rfl)); exact fT rfl)
  by_cases h0 : n = 0
  · subst h0
    (apply wlp; exact pv_seql rfl rfl; exact bool_eq (b := true) rfl)
    (repeat (first | (with_reducible first | apply wpl_nil | apply thenQ_n) | (apply wlp; (intros; ((first | apply pv_move | apply pf_field | (apply pf_load; exact rfl) | exact pv_andT rfl rfl) <;> (first | exact rfl | exact hp.cell 0 rfl rfl))); (intros; (first | exact fB rfl | exact fP rfl))) | ((apply wlpT; exact rfl; exact rfl); (((first | apply pv_move | apply pf_field | (apply pf_load; exact rfl) | exact pv_andT rfl rfl) <;> (first | exact rfl | exact hp.cell 0 rfl rfl))); (intros; (first | exact fB rfl | exact fP rfl))) | (apply wlpF; exact rfl; exact rfl; exact rfl) | (apply wlpU; exact rfl; exact rfl)))
    refine WP_cond_f rfl ?_
    (repeat (first | (with_reducible first | apply WP_seq | apply WP_region | apply thenQ_n | apply WP_skip) | (apply wlp; ((first | apply pf_field | (apply pf_load; exact rfl)) <;> (first | exact rfl | exact hp.cell 0 rfl rfl)); (first | exact fP rfl | exact fT rfl))))
    (apply wls; exact st_call rfl ent84 rfl (c84 0 d _ hn hd))
    rintro _ w3 ⟨rfl, hk⟩
    have hp := hp.call hk
    rw [hg]
    (apply wlp; exact pv_seql rfl rfl; exact bool_eq (b := true) rfl)
    (repeat (first | (with_reducible first | apply wpl_nil | apply thenQ_n | apply WP_ret) | (apply wlp; apply pv_assign; exact fB rfl)))
    exact ret_tmp rfl rfl ⟨_, rfl, rfl, hp.keeps⟩
  · (apply wlp; exact pv_seql rfl rfl; exact bool_eq (b := false) (hen.trans (decide_eq_false h0)))
    (repeat (first | (with_reducible first | apply wpl_nil | apply thenQ_n) | (apply wlp; (intros; (first | apply pv_move | exact pv_andF rfl)); (intros; exact fB rfl)) | (apply wlpF; exact rfl; exact rfl; exact rfl) | (apply wlpU; exact rfl; exact rfl)))
    refine WP_cond_f rfl ?_
    (repeat (first | (with_reducible first | apply WP_seq | apply WP_region | apply thenQ_n | apply WP_skip) | (apply wlp; ((first | apply pf_field | (apply pf_load; exact rfl)) <;> (first | exact rfl | exact hp.cell 0 rfl rfl)); (first | exact fP rfl | exact fT rfl))))
    (apply wls; exact st_call rfl ent84 rfl (c84 n d _ hn hd))
    rintro _ w3 ⟨rfl, hk⟩
    have hp := hp.call hk
    rw [hg]
    (apply wlp; exact pv_seql rfl rfl; exact bool_eq (b := true) rfl)
    (repeat (first | (with_reducible first | apply wpl_nil | apply thenQ_n | apply WP_ret) | (apply wlp; apply pv_assign; exact fB rfl)))
    exact ret_tmp rfl rfl ⟨_, rfl, rfl, hp.keeps⟩
theorem c60 (n d : Nat) (w : World) (hn : Fit n) (hd : Fit d) (hd0 : 0 < d) (hg : Nat.gcd n d = 1) : Ret Tryd.prog 60 [RV n d] w (fun v w' => v = RV n d ∧ Keeps [] w w') := by
  refine Ret.of_WP Tryd.func60 rfl Tryd.ntmps60 rfl ?_
  have hp := Hp.start (M := []) (w := w)
  (repeat (first | (with_reducible first | apply WP_seq | apply WP_region | apply wpl_nil | apply thenQ_n) | (apply wlp; ((first | apply pv_move | apply pv_assign | (apply pf_loadb; exact rfl) | apply pv_func) <;> (first | exact rfl | exact hp.agg_blk 1 rfl rfl)); (first | exact fF rfl | exact fA3 rfl)) | (apply wls; (first | exact sbox3 hp rfl | exact salloc3 hp (zeroTy_ok rfl)); rintro _ w ⟨b, rfl, hp⟩)))
  (apply wls; exact st_call rfl ent82 rfl (c82 n d _ hn hd hd0 hg))
  rintro _ w1 ⟨rfl, hk⟩
  have hp := hp.call hk
  (repeat (first | (with_reducible first | apply wpl_nil | apply thenQ_n) | (apply wlp; (apply pv_not <;> exact rfl); exact fB rfl)))
  refine WP_cond_f rfl ?_
  (repeat (first | (with_reducible first | apply WP_seq | apply WP_region | apply wpl_nil | apply thenQ_n | apply WP_ret | apply WP_skip) | (apply wlp; ((apply pf_loadb; exact rfl) <;> (first | exact rfl | exact hp.agg_blk 1 rfl rfl)); exact fA3 rfl) | (apply wls0; exact sstore3 hp 0 rfl rfl rfl rfl (sizeTy_ok rfl) rfl; rintro _ w ⟨rfl, hp⟩)))
  exact ret_cell rfl rfl rfl rfl (hp.agg_blk 0 rfl rfl) ⟨_, rfl, rfl, hp.keeps⟩
theorem c61 (n d : Nat) (w : World) (hn : Fit n) (hd : Fit d) (hd0 : 0 < d) : Ret Tryd.prog 61 [.bool false, .string (ofN n), .string (ofN d)] w (fun v w' => v = RV (n / Nat.gcd n d) (d / Nat.gcd n d) ∧ Keeps [] w w') := by
  have hg0 : 0 < Nat.gcd n d := Nat.gcd_pos_of_pos_right n hd0
  have hgf : Fit (Nat.gcd n d) := hd.le (Nat.le_of_dvd hd0 (Nat.gcd_dvd_right n d))
  refine Ret.of_WP Tryd.func61 rfl Tryd.ntmps61 rfl ?_
  have hp := Hp.start (M := []) (w := w)
  (repeat (first | (with_reducible first | apply WP_seq | apply WP_region | apply wpl_nil | apply thenQ_n) | (apply wlp; apply pv_move; exact fT rfl) | (apply wls; exact salloc3 hp (zeroTy_ok rfl); rintro _ w ⟨b, rfl, hp⟩)))
  (apply wls; exact st_call rfl ent84 rfl (c84 n d _ hn hd))
  rintro _ w1 ⟨rfl, hk⟩
  have hp := hp.call hk
  (repeat (first | (with_reducible first | apply WP_seq | apply WP_region | apply wpl_nil | apply thenQ_n) | (apply wlp; (first | apply pv_move | apply pv_assign); exact fT rfl)))
  (apply wls; exact st_call rfl ent24 rfl (c24 _ _ _ hn hgf hg0))
  rintro _ w2 ⟨rfl, hk⟩
  have hp := hp.call hk
  (repeat (first | (with_reducible first | apply WP_seq | apply WP_region | apply wpl_nil | apply thenQ_n) | (apply wlp; ((first | apply pv_move | apply pv_assign | apply pv_extract) <;> exact rfl); (first | exact fB rfl | exact fT rfl | exact fU rfl))))
  (apply wls; exact st_call rfl ent24 rfl (c24 _ _ _ hd hgf hg0))
  rintro _ w3 ⟨rfl, hk⟩
  have hp := hp.call hk
  (repeat (first | (with_reducible first | apply WP_seq | apply WP_region | apply wpl_nil | apply thenQ_n) | ((first | apply wlp | (apply wlg; exact rfl; exact rfl)); (intros; ((first | apply pv_move | apply pv_assign | (apply pv_neq; (first | exact rfl | exact ev_sel rfl (by assumption))) | apply pv_extract) <;> exact rfl)); (intros; (first | exact fB rfl | exact fT rfl | exact fU rfl)))))
  (repeat (first | (apply wlp; (intros; ((first | apply pv_move | exact pv_andF rfl | (apply pf_build; exact rfl)) <;> exact rfl)); (intros; (first | exact fB rfl | exact fT rfl | exact fA3 rfl))) | (apply wlpF; exact rfl; exact rfl; exact rfl) | (apply wlpU; exact rfl; exact rfl)))
  (repeat (first | (with_reducible first | apply wpl_nil | apply thenQ_n | apply WP_ret) | (apply wls0; exact sstore3 hp 0 rfl rfl rfl rfl (sizeTy_ok rfl) rfl; rintro _ w ⟨rfl, hp⟩)))
  exact ret_cell rfl rfl rfl rfl (hp.agg_blk 0 rfl rfl) ⟨_, rfl, rfl, hp.keeps⟩
theorem c59 (n d : Nat) (w : World) (hn : Fit n) (hd : Fit d) (hd0 : 0 < d) : Ret Tryd.prog 59 [.bool false, .string (ofN n), .string (ofN d)] w (fun v w' => v = .tuple #[RV (n / Nat.gcd n d) (d / Nat.gcd n d), .bool true] ∧ Keeps [] w w') := by
  refine Ret.of_WP Tryd.func59 rfl Tryd.ntmps59 rfl ?_
  have hp := Hp.start (M := []) (w := w)
  (repeat (first | (with_reducible first | apply WP_seq | apply WP_region | apply wpl_nil | apply thenQ_n) | (apply wlp; (first | apply pv_move | apply pv_assign); (first | exact fB rfl | exact fT rfl)) | (apply wls; exact salloc3 hp (zeroTy_ok rfl); rintro _ w ⟨b, rfl, hp⟩)))
  (apply wls; exact st_call rfl ent81 rfl (c81 n _))
  rintro _ w1 ⟨rfl, hk⟩
  have hp := hp.call hk
  (repeat (first | (apply wlp; (intros; ((first | apply pv_move | apply pv_not) <;> exact rfl)); (intros; (first | exact fB rfl | exact fT rfl))) | ((apply wlpT; exact rfl; exact rfl); (((first | apply pv_move | apply pv_not) <;> exact rfl)); (intros; (first | exact fB rfl | exact fT rfl))) | (apply wlpF; exact rfl; exact rfl; exact rfl) | (apply wlpU; exact rfl; exact rfl)))
  (apply wlsT; exact rfl; exact rfl; exact st_call rfl ent81 rfl (c81 d _); rintro _ w2 ⟨rfl, hk⟩; have hp := hp.call hk)
  (repeat (first | (with_reducible first | apply wpl_nil | apply thenQ_n) | (apply wlp; (intros; ((first | apply pv_move | exact pv_orF rfl rfl | apply pv_not | (apply pv_seql; (first | exact rfl | exact ev_sel rfl (by assumption)))) <;> exact rfl)); (intros; (first | exact fB rfl | exact fT rfl))) | ((apply wlpT; exact rfl; exact rfl); (((first | apply pv_move | exact pv_orF rfl rfl | apply pv_not | (apply pv_seql; (first | exact rfl | exact ev_sel rfl (by assumption)))) <;> exact rfl)); (intros; (first | exact fB rfl | exact fT rfl))) | (apply wlpF; exact rfl; exact rfl; exact rfl) | (apply wlpU; exact rfl; exact rfl)))
  refine WP_cond_d rfl (fun h => absurd (ofN_inj (n := 0) h) (by omega)) (fun _ => ?_)
  (repeat (first | (with_reducible first | apply WP_seq | apply WP_region | apply thenQ_n | apply WP_skip) | (apply wlp; apply pv_move; (first | exact fB rfl | exact fT rfl))))
  (apply wls; exact st_call rfl ent61 rfl (c61 n d _ hn hd hd0))
  rintro _ w3 ⟨rfl, hk⟩
  have hp := hp.call hk
  (apply wls0; exact sstore3 hp 0 rfl rfl rfl rfl (sizeTy_ok rfl) rfl; rintro _ w4 ⟨rfl, hp⟩)
  (repeat (first | (with_reducible first | apply wpl_nil | apply thenQ_n | apply WP_ret) | (apply wlp; apply pv_assign; exact fB rfl)))
  exact ret_cell2 rfl rfl rfl rfl rfl (hp.agg_blk 0 rfl rfl) ⟨_, rfl, rfl, hp.keeps⟩
theorem c32 (a : Int) (w : World) (h0 : 0 ≤ a) (h2 : a ≤ 9223372036854775807) : Ret Tryd.prog 32 [.int .i64 a] w (fun v w' => v = RV a.toNat 1 ∧ Keeps [] w w') := by
  refine Ret.of_WP Tryd.func32 rfl Tryd.ntmps32 rfl ?_
  have hp := Hp.start (M := []) (w := w)
  (repeat (first | (with_reducible first | apply WP_seq | apply WP_region | apply wpl_nil | apply thenQ_n) | (apply wlp; ((first | apply pv_move | apply pv_lss) <;> exact rfl); (first | exact fI rfl | exact fB rfl)) | (apply wls; exact salloc3 hp (zeroTy_ok rfl); rintro _ w ⟨b, rfl, hp⟩)))
  refine WP_cond_d rfl (fun h => absurd h (by omega)) (fun _ => ?_)
  (repeat (first | (with_reducible first | apply WP_seq | apply WP_region | apply thenQ_n | apply WP_skip) | (apply wlp; apply pv_move; exact fI rfl)))
  (apply wls; exact st_call rfl ent13 rfl (c13 a _ h2))
  rintro _ w1 ⟨rfl, hk⟩
  have hp := hp.call hk
  (repeat (first | (with_reducible first | apply wpl_nil | apply thenQ_n | apply WP_ret) | (apply wlp; ((apply pf_build; exact rfl) <;> exact rfl); exact fA3 rfl) | (apply wls0; exact sstore3 hp 0 rfl rfl rfl rfl (sizeTy_ok rfl) rfl; rintro _ w ⟨rfl, hp⟩)))
  exact ret_cell rfl rfl rfl rfl (hp.agg_blk 0 rfl rfl) ⟨_, rfl, rfl, hp.keeps⟩
end Go.Proofs.YteklkjnhefnimaaDoor
/- ratio: Mul, Cmp, Add; conditions: numbers that are not negative, in lowest terms and short. -/
namespace Go.Proofs.YteklkjnhefnimaaDoor
open Go.Eng Go.Dig

/-- a number that is shorter -/
def Sm (x : Nat) : Prop := ∃ k, k ≤ 1000 ∧ x < 2 ^ k
/-- a rational number as an argument -/
structure RF (n d : Nat) : Prop where
  num : Sm n
  den : Sm d
  pos : 0 < d
  low : Nat.gcd n d = 1
theorem Sm.fit {n : Nat} (h : Sm n) : Fit n := by
  obtain ⟨k, h1, h2⟩ := h
  exact ⟨k, by omega, h2⟩
theorem RF.fn {n d : Nat} (h : RF n d) : Fit n := h.num.fit
theorem RF.fd {n d : Nat} (h : RF n d) : Fit d := h.den.fit
theorem mul_fit2 {a b : Nat} (ha : Sm a) (hb : Sm b) : Fit (a * b) := by
  obtain ⟨k, h1, h2⟩ := ha
  obtain ⟨q, h3, h4⟩ := hb
  refine Fit.of (k := k + q) ?_ (by omega)
  rw [Nat.pow_add]
  exact Nat.mul_lt_mul'' h2 h4
theorem add_fit2 {a b c d : Nat} (ha : Sm a) (hb : Sm b) (hc : Sm c) (hd : Sm d) : Fit (a * b + c * d) := by
  obtain ⟨k, h1, h2⟩ := ha
  obtain ⟨q, h3, h4⟩ := hb
  obtain ⟨k2, h5, h6⟩ := hc
  obtain ⟨q2, h7, h8⟩ := hd
  have e1 : a * b < 2 ^ (k + q) := by rw [Nat.pow_add]; exact Nat.mul_lt_mul'' h2 h4
  have e2 : c * d < 2 ^ (k2 + q2) := by rw [Nat.pow_add]; exact Nat.mul_lt_mul'' h6 h8
  have e3 : 2 ^ (k + q) ≤ 2 ^ max (k + q) (k2 + q2) := Nat.pow_le_pow_right (by decide) (by omega)
  have e4 : 2 ^ (k2 + q2) ≤ 2 ^ max (k + q) (k2 + q2) := Nat.pow_le_pow_right (by decide) (by omega)
  refine Fit.of (k := max (k + q) (k2 + q2) + 1) ?_ (by omega)
  rw [Nat.pow_succ]
  omega
theorem pv_beql {P : Program} {n : Nat} {F : Fr} {w : World} {d : Option Tmp} {ty : TypeId} {pos : String} {aft : Array Edge} {g : Option (Nat × Bool)} {x y : Operand} {t t' : Nat} {a b : Bool} (ht : P.underlying t = some .bool) (hx : ev n F x = .bool a) (hy : ev n F y = .bool b) : PV P n w F ⟨d, .binOp .eql t x y t', ty, pos, aft, g⟩ (.bool (a == b)) := by
  have h := eq_bool (P := P) (w := w) (a := a) (b := b) ht
  simp [PV, execOp, hx, hy, eqGuard, binOp, h]

attribute [local irreducible] PV StepF wpl wpd WP Ret
attribute [local irreducible] Fit RB

theorem c31 (a e c d : Nat) (w : World) (h1 : RF a e) (h2 : RF c d) : Ret Tryd.prog 31 [RV a e, RV c d] w (fun v w' => v = RV (a * c / Nat.gcd (a * c) (e * d)) (e * d / Nat.gcd (a * c) (e * d)) ∧ Keeps [] w w') := by
  have hf1 : Fit (a * c) := mul_fit2 h1.num h2.num
  have hf2 : Fit (e * d) := mul_fit2 h1.den h2.den
  have hbd : 0 < e * d := Nat.mul_pos h1.pos h2.pos
  refine Ret.of_WP Tryd.func31 rfl Tryd.ntmps31 rfl ?_
  have hp := Hp.start (M := []) (w := w)
  (repeat (first | (with_reducible first | apply WP_seq | apply WP_region | apply wpl_nil | apply thenQ_n) | (apply wls; (first | exact sbox3 hp rfl | exact salloc3 hp (zeroTy_ok rfl)); rintro _ w ⟨b, rfl, hp⟩)))
  refine WP_drawS mixed (by kernel_rfl) (fun w' => Hp _ _ w' _) hp.drew ?_
  have hp := hp.drew
  (repeat ((apply wdp; exact rfl); (intro w hp; intros; ((apply pf_loadb; exact rfl) <;> (first | exact rfl | exact hp.agg_blk 2 rfl rfl))); (intros; exact fA3 rfl)))
  (apply wds; exact rfl; exact st_call rfl ent60 rfl (c60 a e _ h1.fn h1.fd h1.pos h1.low); rintro _ w1 ⟨rfl, hk⟩; have hp := hp.call hk; refine ⟨hp, ?_⟩)
  (repeat ((apply wdp; exact rfl); (intro w hp; intros; ((apply pf_loadb; exact rfl) <;> (first | exact rfl | exact hp.agg_blk 1 rfl rfl))); (intros; exact fA3 rfl)))
  (apply wds; exact rfl; exact st_call rfl ent60 rfl (c60 c d _ h2.fn h2.fd h2.pos h2.low); rintro _ w2 ⟨rfl, hk⟩; have hp := hp.call hk; refine ⟨hp, ?_⟩)
  (apply wds0S; exact rfl; exact rfl; exact sstore3 hp 2 rfl rfl rfl rfl (sizeTy_ok rfl) rfl; rintro _ w3 ⟨rfl, hp⟩)
  (apply wds0S; exact rfl; exact rfl; exact sstore3 hp 1 rfl rfl rfl rfl (sizeTy_ok rfl) rfl; rintro _ w4 ⟨rfl, hp⟩)
  refine wpd_nil ?_
  have hp := hp.norm 1 [.bool false, .string (ofN c), .string (ofN d)] rfl rfl
  have hp := hp.norm 2 [.bool false, .string (ofN a), .string (ofN e)] rfl rfl
  (repeat (with_reducible first | apply WP_seq | apply thenQ_n))
  refine WP_drawS mixed (by kernel_rfl) (fun w' => Hp _ _ w' _) hp.drew ?_
  have hp := hp.drew
  (repeat ((apply wdp; exact rfl); (intro w hp; intros; ((first | apply pf_field | (apply pf_load; exact rfl)) <;> (first | exact rfl | exact hp.cell 1 rfl rfl | exact hp.cell 2 rfl rfl))); (intros; (first | exact fB rfl | exact fP rfl))))
  (apply wdp; exact rfl; (intro w hp; exact pv_bneq Tryd.underlying4 rfl rfl); exact bool_eq (b := false) rfl)
  (repeat ((apply wdp; exact rfl); (intro w hp; intros; ((first | apply pf_field | (apply pf_load; exact rfl)) <;> (first | exact rfl | exact hp.cell 1 rfl rfl | exact hp.cell 2 rfl rfl))); (intros; (first | exact fP rfl | exact fT rfl))))
  (apply wds; exact rfl; exact st_call rfl ent18 rfl (c18 a c _ h1.fn h2.fn); rintro _ w5 ⟨rfl, hk⟩; have hp := hp.call hk; refine ⟨hp, ?_⟩)
  (repeat ((apply wdp; exact rfl); (intro w hp; intros; ((first | apply pf_field | (apply pf_load; exact rfl)) <;> (first | exact rfl | exact hp.cell 1 rfl rfl | exact hp.cell 2 rfl rfl))); (intros; (first | exact fP rfl | exact fT rfl))))
  (apply wds; exact rfl; exact st_call rfl ent18 rfl (c18 e d _ h1.fd h2.fd); rintro _ w6 ⟨rfl, hk⟩; have hp := hp.call hk; refine ⟨hp, ?_⟩)
  skip
  (apply wds; exact rfl; exact st_call rfl ent61 rfl (c61 (a * c) (e * d) _ hf1 hf2 hbd); rintro _ w7 ⟨rfl, hk⟩; have hp := hp.call hk; refine ⟨hp, ?_⟩)
  (apply wds0S; exact rfl; exact rfl; exact sstore3 hp 0 rfl rfl rfl rfl (sizeTy_ok rfl) rfl; rintro _ w8 ⟨rfl, hp⟩)
  refine wpd_nil ?_
  (repeat (with_reducible first | apply thenQ_n | apply WP_ret))
  exact ret_cell rfl rfl rfl rfl (hp.agg_blk 0 rfl rfl) ⟨_, rfl, rfl, hp.keeps⟩
theorem c35 (a e c d : Nat) (w : World) (h1 : RF a e) (h2 : RF c d) : Ret Tryd.prog 35 [RV a e, RV c d] w (fun v w' => v = .int .i64 (if a * d < c * e then -1 else if a * d = c * e then 0 else 1) ∧ Keeps [] w w') := by
  have hf1 : Fit (a * d) := mul_fit2 h1.num h2.den
  have hf2 : Fit (c * e) := mul_fit2 h2.num h1.den
  refine Ret.of_WP Tryd.func35 rfl Tryd.ntmps35 rfl ?_
  have hp := Hp.start (M := []) (w := w)
  (repeat (first | (with_reducible first | apply WP_seq | apply WP_region | apply wpl_nil | apply thenQ_n) | (apply wlp; apply pv_assign; exact fI rfl) | (apply wls; exact sbox3 hp rfl; rintro _ w ⟨b, rfl, hp⟩)))
  refine WP_drawS mixed (by kernel_rfl) (fun w' => Hp _ _ w' _) hp.drew ?_
  have hp := hp.drew
  (repeat ((apply wdp; exact rfl); (intro w hp; intros; ((apply pf_loadb; exact rfl) <;> (first | exact rfl | exact hp.agg_blk 1 rfl rfl))); (intros; exact fA3 rfl)))
  (apply wds; exact rfl; exact st_call rfl ent60 rfl (c60 a e _ h1.fn h1.fd h1.pos h1.low); rintro _ w1 ⟨rfl, hk⟩; have hp := hp.call hk; refine ⟨hp, ?_⟩)
  (repeat ((apply wdp; exact rfl); (intro w hp; intros; ((apply pf_loadb; exact rfl) <;> (first | exact rfl | exact hp.agg_blk 0 rfl rfl))); (intros; exact fA3 rfl)))
  (apply wds; exact rfl; exact st_call rfl ent60 rfl (c60 c d _ h2.fn h2.fd h2.pos h2.low); rintro _ w2 ⟨rfl, hk⟩; have hp := hp.call hk; refine ⟨hp, ?_⟩)
  (apply wds0S; exact rfl; exact rfl; exact sstore3 hp 1 rfl rfl rfl rfl (sizeTy_ok rfl) rfl; rintro _ w3 ⟨rfl, hp⟩)
  (apply wds0S; exact rfl; exact rfl; exact sstore3 hp 0 rfl rfl rfl rfl (sizeTy_ok rfl) rfl; rintro _ w4 ⟨rfl, hp⟩)
  refine wpd_nil ?_
  have hp := hp.norm 0 [.bool false, .string (ofN c), .string (ofN d)] rfl rfl
  have hp := hp.norm 1 [.bool false, .string (ofN a), .string (ofN e)] rfl rfl
  (repeat (first | (with_reducible first | apply WP_seq | apply WP_region | apply thenQ_n) | (apply wlp; ((apply pf_loadb; exact rfl) <;> (first | exact rfl | exact hp.agg_blk 0 rfl rfl | exact hp.agg_blk 1 rfl rfl)); exact fA3 rfl)))
  (apply wlp; exact pv_eq62 rfl rfl; exact bool_eq (b := decide (a = c) && decide (e = d)) (by rw [ofN_eq, ofN_eq]; rfl))
  (repeat (with_reducible first | apply wpl_nil | apply thenQ_n))
  refine WP_cond rfl (fun h => ?_) (fun h => ?_)
  · have he : a = c ∧ e = d := by simpa using h
    obtain ⟨rfl, rfl⟩ := he
    (repeat (first | (with_reducible first | apply WP_seq | apply WP_region | apply wpl_nil | apply thenQ_n | apply thenQ_ret | apply WP_ret) | (apply wlp; apply pv_assign; exact fI rfl)))
    exact ret_tmp rfl rfl ⟨_, rfl, by rw [if_neg (by omega), if_pos rfl]; rfl, hp.keeps⟩
  · (repeat (first | (with_reducible first | apply WP_seq | apply WP_region | apply thenQ_n | apply WP_skip) | (apply wlp; ((first | apply pf_field | (apply pf_load; exact rfl)) <;> (first | exact rfl | exact hp.cell 0 rfl rfl | exact hp.cell 1 rfl rfl)); (first | exact fB rfl | exact fP rfl))))
    (apply wlp; exact pv_bneq Tryd.underlying4 rfl rfl; exact bool_eq (b := false) rfl)
    (repeat (with_reducible first | apply wpl_nil | apply thenQ_n))
    refine WP_cond_f rfl ?_
    (repeat (with_reducible first | apply WP_seq | apply thenQ_n | apply WP_skip))
    refine WP_draw mixed (by kernel_rfl) (fun w' => Hp _ _ w' _) hp.drew ?_
    have hp := hp.drew
    (repeat ((apply wdp; exact rfl); (intro w hp; intros; ((first | apply pf_field | (apply pf_load; exact rfl)) <;> (first | exact rfl | exact hp.cell 0 rfl rfl | exact hp.cell 1 rfl rfl))); (intros; (first | exact fP rfl | exact fT rfl))))
    (apply wds; exact rfl; exact st_call rfl ent18 rfl (c18 a d _ h1.fn h2.fd); rintro _ w5 ⟨rfl, hk⟩; have hp := hp.call hk; refine ⟨hp, ?_⟩)
    (repeat ((apply wdp; exact rfl); (intro w hp; intros; ((first | apply pf_field | (apply pf_load; exact rfl)) <;> (first | exact rfl | exact hp.cell 0 rfl rfl | exact hp.cell 1 rfl rfl))); (intros; (first | exact fP rfl | exact fT rfl))))
    (apply wds; exact rfl; exact st_call rfl ent18 rfl (c18 c e _ h2.fn h1.fd); rintro _ w6 ⟨rfl, hk⟩; have hp := hp.call hk; refine ⟨hp, ?_⟩)
    skip
    (apply wds; exact rfl; exact st_call rfl ent47 rfl (c47 (a * d) (c * e) _ hf1 hf2); rintro _ w7 ⟨rfl, hk⟩; have hp := hp.call hk; refine ⟨hp, ?_⟩)
    (repeat ((apply wdp; exact rfl); (intro w hp; intros; apply pv_assign); (intros; exact fI rfl)))
    refine wpd_nil ?_
    (repeat (first | (with_reducible first | apply WP_seq | apply WP_region | apply wpl_nil | apply thenQ_n) | (apply wlp; ((first | apply pf_field | (apply pf_load; exact rfl)) <;> (first | exact rfl | exact hp.cell 1 rfl rfl)); (first | exact fB rfl | exact fP rfl))))
    refine WP_cond_f rfl ?_
    (repeat (first | (with_reducible first | apply WP_seq | apply WP_region | apply wpl_nil | apply thenQ_n | apply WP_ret | apply WP_skip) | (apply wlp; (first | apply pv_move | apply pv_assign); exact fI rfl)))
    exact ret_tmp rfl rfl ⟨_, rfl, rfl, hp.keeps⟩
theorem c64 (a e c d : Nat) (w : World) (h1 : RF a e) (h2 : RF c d) : Ret Tryd.prog 64 [RV a e, RV c d] w (fun v w' => v = RV ((a * d + c * e) / Nat.gcd (a * d + c * e) (e * d)) (e * d / Nat.gcd (a * d + c * e) (e * d)) ∧ Keeps [] w w') := by
  have hf1 : Fit (a * d) := mul_fit2 h1.num h2.den
  have hf2 : Fit (c * e) := mul_fit2 h2.num h1.den
  have hf3 : Fit (e * d) := mul_fit2 h1.den h2.den
  have hf4 : Fit (a * d + c * e) := add_fit2 h1.num h2.den h2.num h1.den
  have hbd : 0 < e * d := Nat.mul_pos h1.pos h2.pos
  refine Ret.of_WP Tryd.func64 rfl Tryd.ntmps64 rfl ?_
  have hp := Hp.start (M := []) (w := w)
  (repeat (first | (with_reducible first | apply WP_seq | apply WP_region | apply wpl_nil | apply thenQ_n) | (apply wls; (first | exact sbox3 hp rfl | exact salloc3 hp (zeroTy_ok rfl)); rintro _ w ⟨b, rfl, hp⟩)))
  refine WP_draw mixed (by kernel_rfl) (fun w' => Hp _ _ w' _) hp.drew ?_
  have hp := hp.drew
  (repeat ((apply wdp; exact rfl); (intro w hp; intros; ((first | apply pf_field | (apply pf_load; exact rfl)) <;> (first | exact rfl | exact hp.cell 1 rfl rfl | exact hp.cell 2 rfl rfl))); (intros; (first | exact fP rfl | exact fT rfl))))
  (apply wds; exact rfl; exact st_call rfl ent18 rfl (c18 a d _ h1.fn h2.fd); rintro _ w5 ⟨rfl, hk⟩; have hp := hp.call hk; refine ⟨hp, ?_⟩)
  (repeat ((apply wdp; exact rfl); (intro w hp; intros; ((first | apply pf_field | (apply pf_load; exact rfl)) <;> (first | exact rfl | exact hp.cell 1 rfl rfl | exact hp.cell 2 rfl rfl))); (intros; (first | exact fP rfl | exact fT rfl))))
  (apply wds; exact rfl; exact st_call rfl ent18 rfl (c18 c e _ h2.fn h1.fd); rintro _ w6 ⟨rfl, hk⟩; have hp := hp.call hk; refine ⟨hp, ?_⟩)
  (repeat ((apply wdp; exact rfl); (intro w hp; intros; apply pv_assign); (intros; exact fT rfl)))
  refine wpd_nil ?_
  (repeat (first | (with_reducible first | apply WP_seq | apply WP_region | apply thenQ_n) | (apply wlp; ((first | apply pf_field | (apply pf_load; exact rfl)) <;> (first | exact rfl | exact hp.cell 1 rfl rfl | exact hp.cell 2 rfl rfl)); (first | exact fP rfl | exact fT rfl))))
  (apply wls; exact st_call rfl ent18 rfl (c18 e d _ h1.fd h2.fd))
  rintro _ w7 ⟨rfl, hk⟩
  have hp := hp.call hk
  (repeat (first | (with_reducible first | apply WP_seq | apply WP_region | apply wpl_nil | apply thenQ_n) | (apply wlp; ((first | apply pv_assign | apply pf_field | (apply pf_load; exact rfl)) <;> (first | exact rfl | exact hp.cell 1 rfl rfl | exact hp.cell 2 rfl rfl)); (first | exact fB rfl | exact fP rfl | exact fT rfl))))
  (apply wlp; exact pv_beql Tryd.underlying4 rfl rfl; exact bool_eq (b := true) rfl)
  (repeat (with_reducible first | apply wpl_nil | apply thenQ_n))
  refine WP_cond_t rfl ?_
  (repeat with_reducible apply WP_seq)
  refine WP_drawS mixed (by kernel_rfl) (fun w' => Hp _ _ w' _) hp.drew ?_
  have hp := hp.drew
  (repeat ((apply wdp; exact rfl); (intro w hp; intros; ((first | apply pv_move | apply pf_field | (apply pf_load; exact rfl)) <;> (first | exact rfl | exact hp.cell 2 rfl rfl))); (intros; (first | exact fB rfl | exact fP rfl | exact fT rfl))))
  (apply wds; exact rfl; exact st_call rfl ent17 rfl (c17 (a * d) (c * e) _ hf1 hf2); rintro _ w8 ⟨rfl, hk⟩; have hp := hp.call hk; refine ⟨hp, ?_⟩)
  (repeat ((apply wdp; exact rfl); (intro w hp; intros; apply pv_move); (intros; exact fT rfl)))
  (apply wds; exact rfl; exact st_call rfl ent61 rfl (c61 (a * d + c * e) (e * d) _ hf4 hf3 hbd); rintro _ w9 ⟨rfl, hk⟩; have hp := hp.call hk; refine ⟨hp, ?_⟩)
  (apply wds0S; exact rfl; exact rfl; exact sstore3 hp 0 rfl rfl rfl rfl (sizeTy_ok rfl) rfl; rintro _ w10 ⟨rfl, hp⟩)
  refine wpd_nil ?_
  (repeat (with_reducible first | apply thenQ_n | apply thenQ_ret | apply WP_ret))
  exact ret_cell rfl rfl rfl rfl (hp.agg_blk 0 rfl rfl) ⟨_, rfl, rfl, hp.keeps⟩
theorem c34 (a e c d : Nat) (w : World) (h1 : RF a e) (h2 : RF c d) : Ret Tryd.prog 34 [RV a e, RV c d] w (fun v w' => v = RV ((a * d + c * e) / Nat.gcd (a * d + c * e) (e * d)) (e * d / Nat.gcd (a * d + c * e) (e * d)) ∧ Keeps [] w w') := by
  refine Ret.of_WP Tryd.func34 rfl Tryd.ntmps34 rfl ?_
  have hp := Hp.start (M := []) (w := w)
  (repeat (first | (with_reducible first | apply WP_seq | apply WP_region | apply wpl_nil | apply thenQ_n) | (apply wls; (first | exact sbox3 hp rfl | exact salloc3 hp (zeroTy_ok rfl)); rintro _ w ⟨b, rfl, hp⟩)))
  refine WP_drawS mixed (by kernel_rfl) (fun w' => Hp _ _ w' _) hp.drew ?_
  have hp := hp.drew
  (repeat ((apply wdp; exact rfl); (intro w hp; intros; ((apply pf_loadb; exact rfl) <;> (first | exact rfl | exact hp.agg_blk 2 rfl rfl))); (intros; exact fA3 rfl)))
  (apply wds; exact rfl; exact st_call rfl ent60 rfl (c60 a e _ h1.fn h1.fd h1.pos h1.low); rintro _ w1 ⟨rfl, hk⟩; have hp := hp.call hk; refine ⟨hp, ?_⟩)
  (repeat ((apply wdp; exact rfl); (intro w hp; intros; ((apply pf_loadb; exact rfl) <;> (first | exact rfl | exact hp.agg_blk 1 rfl rfl))); (intros; exact fA3 rfl)))
  (apply wds; exact rfl; exact st_call rfl ent60 rfl (c60 c d _ h2.fn h2.fd h2.pos h2.low); rintro _ w2 ⟨rfl, hk⟩; have hp := hp.call hk; refine ⟨hp, ?_⟩)
  skip
  (apply wds; exact rfl; exact st_call rfl ent64 rfl (c64 a e c d _ h1 h2); rintro _ w3 ⟨rfl, hk⟩; have hp := hp.call hk; refine ⟨hp, ?_⟩)
  (apply wds0S; exact rfl; exact rfl; exact sstore3 hp 0 rfl rfl rfl rfl (sizeTy_ok rfl) rfl; rintro _ w4 ⟨rfl, hp⟩)
  refine wpd_nil ?_
  (repeat (with_reducible first | apply thenQ_n | apply WP_ret))
  exact ret_cell rfl rfl rfl rfl (hp.agg_blk 0 rfl rfl) ⟨_, rfl, rfl, hp.keeps⟩
end Go.Proofs.YteklkjnhefnimaaDoor
/- odds: plain, Chance; sortesref18: Ints; conditions: the tiers lie in memory. -/
namespace Go.Proofs.YteklkjnhefnimaaDoor
open Go.Eng Go.Dig

/-- the rules of a lottery as they are held -/
def dw (nm : ByteArray) (kind round price pool pick : Int) (s : Option Addr) (m c : Nat) : List Value := [.string nm, .int .i64 kind, .int .i64 round, .int .i64 price, .int .i64 pool, .int .i64 pick, .slice s m c, .bool false, .slice none 0 0, .int .i64 0, .int .i64 0, .slice none 0 0, .slice none 0 0]
def eT (t : Int × Int) : List Value := [.int .i64 t.1, .int .i64 t.2]
def okT (t : Int × Int) : Bool := decide (0 ≤ t.2) && decide (t.2 ≤ 100)
def sumT : List (Int × Int) → Int
  | [] => 0
  | t :: l => t.2 + sumT l
theorem sumT_app (l m : List (Int × Int)) : sumT (l ++ m) = sumT l + sumT m := by
  induction l with
  | nil => simp [sumT]
  | cons t l ih => simp only [List.cons_append, sumT, ih]; omega
theorem sumT_bd {l : List (Int × Int)} (h : l.all okT = true) : 0 ≤ sumT l ∧ sumT l ≤ 100 * l.length := by
  induction l with
  | nil => simp [sumT]
  | cons t l ih =>
    simp only [List.all_cons, Bool.and_eq_true, okT, decide_eq_true_eq] at h
    have := ih h.2
    simp only [sumT, List.length_cons]
    omega
/-- plain: is a draw a plain lottery? -/
def plB (kind pool pick : Int) (l : List (Int × Int)) : Bool := decide (kind = 1 ∧ 0 ≤ pool ∧ pool ≤ 60 ∧ 0 ≤ pick ∧ pick ≤ pool) && (decide (l.length ≤ 12) && (l.all okT && decide (sumT l ≤ 100)))

attribute [local irreducible] PV StepF wpl wpd WP Ret
attribute [local irreducible] Fit RB

theorem c57 (nm : ByteArray) (kind round price pool pick : Int) (s : Option Addr) (c : Nat) (l : List (Int × Int)) (w : World) (hs : SlAt w 2 eT s l) (hl : l.length ≤ 9223372036854775806) :
    Ret Tryd.prog 57 [.agg (dw nm kind round price pool pick s l.length c).toArray] w (fun v w' => v = .bool (plB kind pool pick l) ∧ Keeps [] w w') := by
  refine Ret.of_WP Tryd.func57 rfl Tryd.ntmps57 rfl ?_
  have hp := Hp.start (M := []) (w := w)
  (repeat (first | (with_reducible first | apply WP_seq | apply WP_region | apply wpl_nil | apply thenQ_n) | ((first | apply wlp | (apply wlg; exact rfl; exact rfl)); (intros; ((first | apply pv_move | apply pv_assign | apply pf_field | (apply pf_load; exact rfl) | exact pv_or rfl rfl rfl | apply pv_lss | apply pv_gtr | (apply pv_neq; (first | exact rfl | exact ev_sel rfl (by assumption)))) <;> (first | exact rfl | exact ev_sel rfl (by assumption) | exact hp.cell 0 rfl rfl))); (intros; (first | exact fI rfl | exact fB rfl | exact fP rfl))) | (apply wls; exact sbox13 hp rfl; rintro _ w ⟨b, rfl, hp⟩)))
  refine WP_cond rfl (fun h => ?_) (fun h => ?_)
  · have hz : plB kind pool pick l = false := by
      unfold plB
      rw [decide_eq_false (by simp at h; omega)]
      rfl
    rw [hz]
    (repeat (first | (with_reducible first | apply WP_seq | apply WP_region | apply wpl_nil | apply thenQ_n | apply thenQ_ret | apply WP_ret) | (apply wlp; apply pv_assign; exact fB rfl)))
    exact ret_tmp rfl rfl ⟨_, rfl, rfl, hp.keeps⟩
  · have h1 : kind = 1 ∧ 0 ≤ pool ∧ pool ≤ 60 ∧ 0 ≤ pick ∧ pick ≤ pool := by simp at h; omega
    clear h
    (repeat (first | (with_reducible first | apply WP_seq | apply WP_region | apply wpl_nil | apply thenQ_n | apply WP_skip) | (apply wlp; ((first | apply pf_field | (apply pf_load; exact rfl) | (apply pf_len; exact rfl) | apply pv_gtr) <;> (first | exact rfl | exact hp.cell 0 rfl rfl)); (first | exact fI rfl | exact fB rfl | exact fP rfl | exact fS rfl))))
    refine WP_cond_d rfl (fun h => ?_) (fun h => ?_)
    · have hz : plB kind pool pick l = false := by
        unfold plB
        rw [decide_eq_false (show ¬ l.length ≤ 12 by omega)]
        simp
      rw [hz]
      (repeat (first | (with_reducible first | apply WP_seq | apply WP_region | apply wpl_nil | apply thenQ_n | apply thenQ_ret | apply WP_ret) | (apply wlp; apply pv_assign; exact fB rfl)))
      exact ret_tmp rfl rfl ⟨_, rfl, rfl, hp.keeps⟩
    · have h12 : l.length ≤ 12 := by omega
      clear h
      have hB : plB kind pool pick l = (l.all okT && decide (sumT l ≤ 100)) := by
        unfold plB
        rw [decide_eq_true h1, decide_eq_true h12]
        rfl
      rw [hB]
      (repeat (first | (with_reducible first | apply WP_seq | apply WP_block | apply WP_region | apply wpl_nil | apply thenQ_n | apply WP_skip) | (apply wlp; ((first | apply pv_move | apply pv_assign | apply pf_field | (apply pf_load; exact rfl) | (apply pf_len; exact rfl)) <;> (first | exact rfl | exact hp.cell 0 rfl rfl)); (first | exact fI rfl | exact fP rfl | exact fS rfl))))
      refine WP_loopS [2, 3, 5, 38, 39, 40, 41, 42, 43, 44, 45, 46, 47, 48, 49, 50, 51, 52, 53, 54] (fun (i : Nat) F => (F.put 38 (.int .i64 (i : Int))).put 3 (.int .i64 (sumT (l.take i)))) (fun i w' => i ≤ l.length ∧ (l.take i).all okT = true ∧ Hp _ [] w' _) (fun i => l.length - i) 0 (put_self (put_self (Same.eq .refl) rfl) rfl) ⟨Nat.zero_le _, rfl, hp⟩ ?_
      clear hp
      rintro u i w1 ⟨hi, hall, hp⟩
      (repeat (first | (with_reducible first | apply WP_seq | apply WP_region | apply wpl_nil | apply thenQ_n) | (apply wlp; (apply pv_lss <;> exact rfl); exact fB rfl)))
      refine WP_cond_d rfl (fun h2 => ?_) (fun h2 => ?_)
      · have hlt : i < l.length := by omega
        obtain ⟨b0, o0, hs0, hc0⟩ := hs.base (by omega)
        have hgi := List.getElem?_eq_getElem hlt
        have hci := hc0 i _ hgi
        have htk := List.take_succ_eq_append_getElem hlt
        generalize l[i] = t at hci htk
        obtain ⟨tm, tp⟩ := t
        have hbd := sumT_bd hall
        rw [List.length_take, Nat.min_eq_left (by omega)] at hbd
        (repeat (first | (with_reducible first | apply WP_seq | apply WP_block | apply WP_region | apply thenQ_n | apply WP_skip) | (apply wlp; ((first | (apply pf_loadb; exact rfl) | (apply pf_index; exact rfl)) <;> (first | exact rfl | assumption)); exact fP rfl)))
        (apply wlp; exact pf_loads (vs := [.int .i64 tm, .int .i64 tp]) rfl rfl rfl rfl (fun j v hv => hp.old0 (hci j v hv)); exact fA2 rfl)
        (repeat (first | (with_reducible first | apply WP_seq | apply WP_region | apply wpl_nil | apply thenQ_n) | ((first | apply wlp | (apply wlg; exact rfl; exact rfl)); (intros; ((first | apply pv_move | apply pf_field | (apply pf_load; exact rfl) | exact pv_or rfl rfl rfl | apply pv_lss | apply pv_gtr) <;> (first | exact rfl | exact ev_sel rfl (by assumption) | exact hp.cell 0 rfl rfl))); (intros; (first | exact fI rfl | exact fB rfl | exact fP rfl))) | (apply wls; exact salloc2 hp (zeroTy_ok rfl); rintro _ w ⟨b, rfl, hp⟩) | (apply wls0; exact sstore2 hp 0 rfl rfl rfl rfl (sizeTy_ok rfl) rfl; rintro _ w ⟨rfl, hp⟩)))
        refine WP_cond rfl (fun h => ?_) (fun h => ?_)
        · have hz : l.all okT = false := by
            have h4 : (l.take (i + 1)).all okT = false := by
              have h6 : okT (tm, tp) = false := by
                unfold okT
                simp at h ⊢
                omega
              rw [htk, List.all_append]
              simp only [List.all_cons, List.all_nil, h6, Bool.false_and, Bool.and_false]
            cases h5 : l.all okT
            · rfl
            · rw [List.all_eq_true] at h5
              have : (l.take (i + 1)).all okT = true := List.all_eq_true.2 fun x hx => h5 x (List.mem_of_mem_take hx)
              rw [this] at h4
              cases h4
          rw [hz]
          (repeat (first | (with_reducible first | apply WP_seq | apply WP_region | apply wpl_nil | apply thenQ_n | apply thenQ_ret | apply inBlk_ret | apply WP_ret) | (apply wlp; apply pv_assign; exact fB rfl)))
          exact ret_tmp rfl rfl ⟨_, rfl, rfl, hp.keeps⟩
        · have htp : 0 ≤ tp ∧ tp ≤ 100 := by simp at h; omega
          (repeat (first | (with_reducible first | apply WP_region | apply thenQ_n | apply WP_skip) | (apply wlp; ((first | apply pv_move | apply pf_field | (apply pf_load; exact rfl)) <;> (first | exact rfl | exact hp.cell 0 rfl rfl)); (first | exact fI rfl | exact fP rfl))))
          (apply wlp; exact pv_add rfl rfl; exact int_eq (i64_in (by omega) (by omega)))
          (repeat (first | (with_reducible first | apply WP_region | apply wpl_nil | apply thenQ_n | apply inBlk_n) | (apply wlp; apply pv_assign; exact fI rfl)))
          (apply wlp; exact pv_add rfl rfl; exact int_eq (i64_in (by omega) (by omega)))
          (repeat (first | (with_reducible first | apply wpl_nil | apply thenQ_n) | (apply wlp; apply pv_move; exact fI rfl)))
          refine ⟨i + 1, put_self (put_self (Same.eq (by repeat (first | exact Same.hav | exact Same.refl | refine Same.put rfl ?_ | refine Same.havs rfl ?_))) rfl) (int_eq (by rw [htk, sumT_app]; simp [sumT])), ⟨by omega, ?_, hp.tail⟩, by omega⟩
          rw [htk, List.all_append, hall]
          simp [okT, htp]
      · obtain rfl : i = l.length := by omega
        rw [List.take_length] at hall
        rw [hall, List.take_length]
        (repeat (first | (with_reducible first | apply WP_seq | apply WP_region | apply wpl_nil | apply thenQ_n | apply thenQ_exit | apply WP_ret | apply WP_exit) | ((with_reducible apply inBlk_same); exact rfl) | (apply wlp; ((first | apply pv_move | apply pv_assign | apply pv_leq) <;> exact rfl); (first | exact fI rfl | exact fB rfl))))
        exact ret_tmp rfl rfl ⟨_, rfl, rfl, hp.keeps⟩

def chA (pool pick m : Int) : Nat := chZ pick m * chZ (pool - pick) (pick - m)
theorem c30t (nm : ByteArray) (kind round price pool pick m : Int) (s : Option Addr) (c : Nat) (l : List (Int × Int)) (w : World) (hs : SlAt w 2 eT s l) (hl : l.length ≤ 9223372036854775806) (hB : plB kind pool pick l = true) (hm : 0 ≤ m ∧ m ≤ pick) :
    Ret Tryd.prog 30 [.agg (dw nm kind round price pool pick s l.length c).toArray, .int .i64 m] w (fun v w' => v = .tuple #[RV (chA pool pick m / Nat.gcd (chA pool pick m) (chZ pool pick)) (chZ pool pick / Nat.gcd (chA pool pick m) (chZ pool pick)), .bool true] ∧ Keeps [] w w') := by
  have h1 : kind = 1 ∧ 0 ≤ pool ∧ pool ≤ 60 ∧ 0 ≤ pick ∧ pick ≤ pool := by
    unfold plB at hB
    simp at hB
    omega
  have hf1 : Fit (chZ pick m) := Fit.of (k := 61) (Nat.lt_of_le_of_lt (chZ_le (by omega)) (by decide)) (by decide)
  have hf2 : Fit (chZ (pool - pick) (pick - m)) := Fit.of (k := 61) (Nat.lt_of_le_of_lt (chZ_le (by omega)) (by decide)) (by decide)
  have hf3 : Fit (chZ pool pick) := Fit.of (k := 61) (Nat.lt_of_le_of_lt (chZ_le (by omega)) (by decide)) (by decide)
  have hf4 : Fit (chA pool pick m) := by
    refine Fit.of (k := 61 + 61) ?_ (by decide)
    rw [Nat.pow_add]
    exact Nat.mul_lt_mul'' (Nat.lt_of_le_of_lt (chZ_le (by omega)) (by decide)) (Nat.lt_of_le_of_lt (chZ_le (by omega)) (by decide))
  have hpos : 0 < chZ pool pick := by
    obtain ⟨N, rfl⟩ : ∃ N : Nat, pool = N := ⟨pool.toNat, by omega⟩
    obtain ⟨K, rfl⟩ : ∃ K : Nat, pick = K := ⟨pick.toNat, by omega⟩
    rw [chZ_nat (by omega)]
    exact ch_pos (by omega)
  refine Ret.of_WP Tryd.func30 rfl Tryd.ntmps30 rfl ?_
  have hp := Hp.start (M := []) (w := w)
  (repeat (first | (with_reducible first | apply WP_seq | apply WP_region | apply wpl_nil | apply thenQ_n) | (apply wlp; ((first | apply pv_assign | (apply pf_loadb; exact rfl)) <;> (first | exact rfl | exact hp.agg_blk 1 rfl rfl)); (first | exact fB rfl | exact fA13 rfl)) | (apply wls; (first | exact sbox13 hp rfl | exact salloc3 hp (zeroTy_ok rfl)); rintro _ w ⟨b, rfl, hp⟩)))
  (apply wls; exact st_call rfl ent57 rfl (c57 nm kind round price pool pick s c l _ (hs.keep0 hp.keeps) hl); rintro _ w1 ⟨rfl, hk⟩; have hp := hp.call hk)
  rw [hB]
  (apply wlp; (apply pv_not <;> exact rfl); exact fB rfl)
  (apply wlp; apply pv_move; exact fB rfl)
  ((apply wlpT; exact rfl; exact rfl); (apply pv_move); (intros; exact fI rfl))
  (apply wlpT; exact rfl; exact rfl; (exact pv_lss rfl rfl); exact bool_eq (b := false) (decide_eq_false (by omega)))
  (repeat (first | (with_reducible first | apply wpl_nil | apply thenQ_n) | (apply wlp; (intros; ((first | apply pv_move | apply pf_field | (apply pf_load; exact rfl) | exact pv_orF rfl rfl | apply pv_gtr) <;> (first | exact rfl | exact hp.cell 1 rfl rfl))); (intros; (first | exact fI rfl | exact fB rfl | exact fP rfl))) | ((apply wlpT; exact rfl; exact rfl); (((first | apply pv_move | apply pf_field | (apply pf_load; exact rfl) | exact pv_orF rfl rfl | apply pv_gtr) <;> (first | exact rfl | exact hp.cell 1 rfl rfl))); (intros; (first | exact fI rfl | exact fB rfl | exact fP rfl))) | (apply wlpF; exact rfl; exact rfl; exact rfl) | (apply wlpU; exact rfl; exact rfl)))
  refine WP_cond_d rfl (fun h => absurd h (by omega)) (fun _ => ?_)
  (repeat (with_reducible first | apply WP_seq | apply thenQ_n | apply WP_skip))
  refine WP_draw mixed (by kernel_rfl) (fun w' => Hp _ _ w' _) hp.drew ?_
  have hp := hp.drew
  (repeat ((apply wdp; exact rfl); (intro w hp; intros; ((first | apply pv_move | apply pf_field | (apply pf_load; exact rfl)) <;> (first | exact rfl | exact hp.cell 1 rfl rfl))); (intros; (first | exact fI rfl | exact fP rfl))))
  (apply wds; exact rfl; exact st_call rfl ent12 rfl (c12 pick m _ (by omega)); rintro _ w2 ⟨rfl, hk⟩; have hp := hp.call hk; refine ⟨hp, ?_⟩)
  (repeat ((apply wdp; exact rfl); (intro w hp; intros; ((first | apply pf_field | (apply pf_load; exact rfl)) <;> (first | exact rfl | exact hp.cell 1 rfl rfl))); (intros; (first | exact fI rfl | exact fP rfl))))
  (apply wdp; exact rfl; (intro w hp; exact pv_sub rfl rfl); exact int_eq (i64_in (by omega) (by omega)))
  (repeat ((apply wdp; exact rfl); (intro w hp; intros; ((first | apply pv_move | apply pf_field | (apply pf_load; exact rfl)) <;> (first | exact rfl | exact hp.cell 1 rfl rfl))); (intros; (first | exact fI rfl | exact fP rfl))))
  (apply wdp; exact rfl; (intro w hp; exact pv_sub rfl rfl); exact int_eq (i64_in (by omega) (by omega)))
  (apply wds; exact rfl; exact st_call rfl ent12 rfl (c12 (pool - pick) (pick - m) _ (by omega)); rintro _ w3 ⟨rfl, hk⟩; have hp := hp.call hk; refine ⟨hp, ?_⟩)
  (apply wds; exact rfl; exact st_call rfl ent18 rfl (c18 (chZ pick m) (chZ (pool - pick) (pick - m)) _ hf1 hf2); rintro _ w4 ⟨rfl, hk⟩; have hp := hp.call hk; refine ⟨hp, ?_⟩)
  (repeat ((apply wdp; exact rfl); (intro w hp; intros; apply pv_assign); (intros; exact fT rfl)))
  refine wpd_nil ?_
  (repeat (first | (with_reducible first | apply WP_seq | apply WP_region | apply thenQ_n) | (apply wlp; ((first | apply pv_move | apply pf_field | (apply pf_load; exact rfl)) <;> (first | exact rfl | exact hp.cell 1 rfl rfl)); (first | exact fI rfl | exact fP rfl | exact fT rfl))))
  (apply wls; exact st_call rfl ent12 rfl (c12 pool pick _ (by omega)))
  rintro _ w5 ⟨rfl, hk⟩
  have hp := hp.call hk
  (apply wls; exact st_call rfl ent59 rfl (c59 (chA pool pick m) (chZ pool pick) _ hf4 hf3 hpos); rintro _ w6 ⟨rfl, hk⟩; have hp := hp.call hk)
  (repeat (apply wlp; (apply pv_extract <;> exact rfl); (first | exact fB rfl | exact fA3 rfl)))
  (apply wls0; exact sstore3 hp 0 rfl rfl rfl rfl (sizeTy_ok rfl) rfl; rintro _ w7 ⟨rfl, hp⟩)
  (repeat (first | (with_reducible first | apply wpl_nil | apply thenQ_n | apply WP_ret) | (apply wlp; apply pv_assign; exact fB rfl)))
  exact ret_cell2 rfl rfl rfl rfl rfl (hp.agg_blk 0 rfl rfl) ⟨_, rfl, rfl, hp.keeps⟩
theorem c30f (nm : ByteArray) (kind round price pool pick m : Int) (s : Option Addr) (c : Nat) (l : List (Int × Int)) (w : World) (hs : SlAt w 2 eT s l) (hl : l.length ≤ 9223372036854775806) (hB : plB kind pool pick l = false ∨ m < 0 ∨ pick < m) :
    Ret Tryd.prog 30 [.agg (dw nm kind round price pool pick s l.length c).toArray, .int .i64 m] w (fun v w' => v = .tuple #[RV 0 0, .bool false] ∧ Keeps [] w w') := by
  refine Ret.of_WP Tryd.func30 rfl Tryd.ntmps30 rfl ?_
  have hp := Hp.start (M := []) (w := w)
  (repeat (first | (with_reducible first | apply WP_seq | apply WP_region | apply wpl_nil | apply thenQ_n) | (apply wlp; ((first | apply pv_assign | (apply pf_loadb; exact rfl)) <;> (first | exact rfl | exact hp.agg_blk 1 rfl rfl)); (first | exact fB rfl | exact fA13 rfl)) | (apply wls; (first | exact sbox13 hp rfl | exact salloc3 hp (zeroTy_ok rfl)); rintro _ w ⟨b, rfl, hp⟩)))
  (apply wls; exact st_call rfl ent57 rfl (c57 nm kind round price pool pick s c l _ (hs.keep0 hp.keeps) hl); rintro _ w1 ⟨rfl, hk⟩; have hp := hp.call hk)
  (repeat (first | (with_reducible first | apply wpl_nil | apply thenQ_n) | ((first | apply wlp | (apply wlg; exact rfl; exact rfl)); (intros; ((first | apply pv_move | apply pf_field | (apply pf_load; exact rfl) | exact pv_or rfl rfl rfl | apply pv_lss | apply pv_gtr | apply pv_not) <;> (first | exact rfl | exact ev_sel rfl (by assumption) | exact hp.cell 1 rfl rfl))); (intros; (first | exact fI rfl | exact fB rfl | exact fP rfl)))))
  refine WP_cond rfl (fun _ => ?_) (fun h => ?_)
  · (repeat (first | (with_reducible first | apply WP_seq | apply WP_region | apply wpl_nil | apply thenQ_n | apply thenQ_ret | apply WP_ret) | (apply wlp; ((first | apply pv_assign | (apply pf_build; exact rfl)) <;> exact rfl); (first | exact fB rfl | exact fA3 rfl)) | (apply wls0; exact sstore3 hp 0 rfl rfl rfl rfl (sizeTy_ok rfl) rfl; rintro _ w ⟨rfl, hp⟩)))
    exact ret_cell2 rfl rfl rfl rfl rfl (hp.agg_blk 0 rfl rfl) ⟨_, rfl, rfl, hp.keeps⟩
  · exfalso
    simp at h
    rcases hB with hB | hB | hB
    · rw [hB] at h
      simp at h
    · omega
    · omega
theorem c21 (a b : List Int) (s s2 : Option Addr) (c c2 : Nat) (w : World) (hs : SlAt w 1 eI s a) (hs2 : SlAt w 1 eI s2 b) (hla : a.length ≤ 9223372036854775806) (hlb : b.length ≤ 9223372036854775806) :
    Ret Tryd.prog 21 [.slice s a.length c, .slice s2 b.length c2] w (fun v w' => v = .bool (decide (a = b)) ∧ Keeps [] w w') := by
  refine Ret.of_WP Tryd.func21 rfl Tryd.ntmps21 rfl ?_
  have hp := Hp.start (M := []) (w := w)
  (repeat (first | (with_reducible first | apply WP_seq | apply WP_region | apply wpl_nil | apply thenQ_n) | (apply wlp; ((first | apply pv_move | apply pv_assign | (apply pf_len; exact rfl) | (apply pv_neq; (first | exact rfl | exact ev_sel rfl (by assumption)))) <;> exact rfl); (first | exact fI rfl | exact fB rfl | exact fS rfl))))
  refine WP_cond_nd rfl (fun h => ?_) (fun h => ?_)
  · have hne : a ≠ b := by rintro rfl; exact h rfl
    (repeat (first | (with_reducible first | apply WP_seq | apply WP_region | apply wpl_nil | apply thenQ_n | apply thenQ_ret | apply WP_ret) | (apply wlp; apply pv_assign; exact fB rfl)))
    exact ret_tmp rfl rfl ⟨_, rfl, by rw [decide_eq_false hne]; rfl, hp.keeps⟩
  · have hl : a.length = b.length := by omega
    (repeat (first | (with_reducible first | apply WP_seq | apply WP_block | apply WP_region | apply wpl_nil | apply thenQ_n | apply WP_skip) | (apply wlp; apply pv_assign; exact fI rfl)))
    refine WP_loopS [4, 5, 11, 12, 13, 14, 15, 16, 17, 18, 19, 20, 21, 22, 23, 24, 25] (fun (i : Nat) F => F.put 5 (.int .i64 (i : Int))) (fun i w' => i ≤ a.length ∧ a.take i = b.take i ∧ Hp w [] w' []) (fun i => a.length - i) 0 (put_self (Same.eq .refl) rfl) ⟨Nat.zero_le _, rfl, hp⟩ ?_
    clear hp
    rintro u i w1 ⟨hi, he, hp⟩
    (repeat (first | (with_reducible first | apply WP_seq | apply WP_region | apply wpl_nil | apply thenQ_n) | (apply wlp; ((first | apply pv_move | (apply pf_len; exact rfl) | apply pv_lss) <;> exact rfl); (first | exact fI rfl | exact fB rfl | exact fS rfl))))
    refine WP_cond_d rfl (fun h2 => ?_) (fun h2 => ?_)
    · have hlt : i < a.length := by omega
      have hlt2 : i < b.length := by omega
      obtain ⟨b0, o0, hs0, hc0⟩ := hs.base (by omega)
      have hci := hc0 i _ (List.getElem?_eq_getElem hlt) 0 _ rfl
      obtain ⟨b1, o1, hs1, hc1⟩ := hs2.base (by omega)
      have hcj := hc1 i _ (List.getElem?_eq_getElem hlt2) 0 _ rfl
      have ht1 := List.take_succ_eq_append_getElem hlt
      have ht2 := List.take_succ_eq_append_getElem hlt2
      have hne : a[i] ≠ b[i] → a ≠ b := by rintro h rfl; exact h rfl
      generalize a[i] = x at hci ht1 hne
      generalize b[i] = y at hcj ht2 hne
      (repeat (with_reducible first | apply WP_seq | apply WP_block | apply thenQ_n | apply WP_skip))
      refine WP_draw mixed (by kernel_rfl) (fun w' => Hp _ _ w' _) hp.drew ?_
      have hp := hp.drew
      (repeat ((apply wdp; exact rfl); (intro w hp; intros; ((first | apply pv_move | (apply pf_load; exact rfl) | (apply pv_neq; (first | exact rfl | exact ev_sel rfl (by assumption))) | (apply pf_index; exact rfl)) <;> (first | exact rfl | assumption | exact hp.old0 (by assumption)))); (intros; (first | exact fI rfl | exact fB rfl | exact fP rfl | exact fS rfl))))
      refine wpd_nil ?_
      (repeat with_reducible apply thenQ_n)
      refine WP_cond_nd rfl (fun h3 => ?_) (fun h3 => ?_)
      · (repeat (first | (with_reducible first | apply WP_seq | apply WP_region | apply wpl_nil | apply thenQ_n | apply thenQ_ret | apply inBlk_ret | apply WP_ret) | (apply wlp; apply pv_assign; exact fB rfl)))
        exact ret_tmp rfl rfl ⟨_, rfl, by rw [decide_eq_false (hne h3)]; rfl, hp.keeps⟩
      · (repeat (first | (with_reducible first | apply WP_region | apply thenQ_n | apply inBlk_n | apply WP_skip) | (apply wlp; apply pv_move; exact fI rfl)))
        (apply wlp; exact pv_add rfl rfl; exact int_eq (i64_in (by omega) (by omega)))
        (repeat (first | (with_reducible first | apply wpl_nil | apply thenQ_n) | (apply wlp; apply pv_assign; exact fI rfl)))
        exact ⟨i + 1, put_self (Same.eq (by repeat (first | exact Same.hav | exact Same.refl | refine Same.put rfl ?_ | refine Same.havs rfl ?_))) rfl, ⟨by omega, by rw [ht1, ht2, he, h3], hp⟩, by omega⟩
    · obtain rfl : i = a.length := by omega
      have hab : a = b := by
        rw [List.take_length, hl, List.take_length] at he
        exact he
      (repeat (first | (with_reducible first | apply WP_seq | apply WP_region | apply wpl_nil | apply thenQ_n | apply thenQ_exit | apply WP_ret | apply WP_exit) | ((with_reducible apply inBlk_same); exact rfl) | (apply wlp; apply pv_assign; exact fB rfl)))
      exact ret_tmp rfl rfl ⟨_, rfl, by rw [decide_eq_true hab]; rfl, hp.keeps⟩
end Go.Proofs.YteklkjnhefnimaaDoor
/- odds: Payouts; conditions: the lists lie in memory. -/
namespace Go.Proofs.YteklkjnhefnimaaDoor
open Go.Eng Go.Dig

/-- plain: what one winner of a tier is paid -/
def prt (pot : Int) (ms : List Int) (t : Int × Int) : Int := ((pot * t.2).tdiv 100).tdiv (ms.count t.1)
/-- what is paid for a match, and all that is paid -/
def pfS (pot : Int) (ms : List Int) : List (Int × Int) → Int → Int
  | [], _ => 0
  | t :: l, m => (if m = t.1 then prt pot ms t else 0) + pfS pot ms l m
def lfS (pot : Int) (ms : List Int) : List (Int × Int) → Int
  | [] => 0
  | t :: l => (ms.count t.1 : Int) * prt pot ms t + lfS pot ms l
theorem pfS_app (pot : Int) (ms : List Int) (l : List (Int × Int)) (t : Int × Int) (m : Int) : pfS pot ms (l ++ [t]) m = pfS pot ms l m + (if m = t.1 then prt pot ms t else 0) := by
  induction l with
  | nil => simp [pfS]
  | cons u l ih => simp only [List.cons_append, pfS, ih]; omega
theorem lfS_app (pot : Int) (ms : List Int) (l : List (Int × Int)) (t : Int × Int) : lfS pot ms (l ++ [t]) = lfS pot ms l + (ms.count t.1 : Int) * prt pot ms t := by
  induction l with
  | nil => simp [lfS]
  | cons u l ih => simp only [List.cons_append, lfS, ih]; omega
theorem pot_mul {pot p : Int} (h : 0 ≤ pot ∧ pot ≤ 1000000000000) (hp : 0 ≤ p ∧ p ≤ 100) : 0 ≤ pot * p ∧ pot * p ≤ 100000000000000 := by
  refine ⟨Int.mul_nonneg h.1 hp.1, ?_⟩
  have h1 : pot * p ≤ pot * 100 := Int.mul_le_mul_of_nonneg_left hp.2 h.1
  omega
theorem tdiv_bd {a b c : Int} (ha : 0 ≤ a) (hc : a ≤ c) (hb : 0 ≤ b) : 0 ≤ a.tdiv b ∧ a.tdiv b ≤ c := by
  refine ⟨Int.tdiv_nonneg ha hb, Int.le_trans ?_ hc⟩
  rw [Int.tdiv_eq_ediv_of_nonneg ha]
  exact Int.ediv_le_self _ ha
theorem prt_bd {pot : Int} {ms : List Int} {t : Int × Int} (h : 0 ≤ pot ∧ pot ≤ 1000000000000) (ht : okT t = true) : 0 ≤ prt pot ms t ∧ prt pot ms t ≤ 1000000000000 := by
  have ht2 : 0 ≤ t.2 ∧ t.2 ≤ 100 := by simpa [okT] using ht
  have h1 := pot_mul h ht2
  have h2 : 0 ≤ (pot * t.2).tdiv 100 ∧ (pot * t.2).tdiv 100 ≤ 1000000000000 := by
    rw [Int.tdiv_eq_ediv_of_nonneg h1.1]
    omega
  exact tdiv_bd h2.1 h2.2 (Int.natCast_nonneg _)
theorem pfS_bd {pot : Int} {ms : List Int} {l : List (Int × Int)} {m : Int} (h : 0 ≤ pot ∧ pot ≤ 1000000000000) (ht : l.all okT = true) : 0 ≤ pfS pot ms l m ∧ pfS pot ms l m ≤ 1000000000000 * l.length := by
  induction l with
  | nil => simp [pfS]
  | cons t l ih =>
    simp only [List.all_cons, Bool.and_eq_true] at ht
    have h1 := prt_bd (ms := ms) h ht.1
    have h2 := ih ht.2
    simp only [pfS, List.length_cons]
    split <;> omega
theorem cnt_mul {k : Nat} {x : Int} (hk : k ≤ 2000) (hx : 0 ≤ x ∧ x ≤ 1000000000000) : 0 ≤ (k : Int) * x ∧ (k : Int) * x ≤ 2000000000000000 := by
  refine ⟨Int.mul_nonneg (by omega) hx.1, ?_⟩
  have h1 : (k : Int) * x ≤ 2000 * x := Int.mul_le_mul_of_nonneg_right (by omega) hx.1
  omega
theorem lfS_bd {pot : Int} {ms : List Int} {l : List (Int × Int)} (h : 0 ≤ pot ∧ pot ≤ 1000000000000) (ht : l.all okT = true) (hm : ms.length ≤ 2000) : 0 ≤ lfS pot ms l ∧ lfS pot ms l ≤ 2000000000000000 * l.length := by
  induction l with
  | nil => simp [lfS]
  | cons t l ih =>
    simp only [List.all_cons, Bool.and_eq_true] at ht
    have h1 := cnt_mul (k := ms.count t.1) (Nat.le_trans List.count_le_length hm) (prt_bd (ms := ms) h ht.1)
    have h2 := ih ht.2
    simp only [lfS, List.length_cons]
    omega
theorem count_step {ms : List Int} {j : Nat} {x m : Int} (h : ms.take (j + 1) = ms.take j ++ [x]) : (ms.take (j + 1)).count m = (ms.take j).count m + (if x = m then 1 else 0) := by
  rw [h, List.count_append, List.count_singleton]
  by_cases hx : x = m <;> simp [hx]
theorem count_mul_succ (k : Nat) (x : Int) : ((k + 1 : Nat) : Int) * x = (k : Int) * x + x := by
  rw [Int.natCast_add, Int.add_mul]
  simp

attribute [local irreducible] PV StepF wpl wpd WP Ret
attribute [local irreducible] Fit RB prt

theorem c28f (nm : ByteArray) (kind round price pool pick pot : Int) (s s2 : Option Addr) (c c2 : Nat) (l : List (Int × Int)) (ms : List Int) (w : World) (hs : SlAt w 2 eT s l) (hl : l.length ≤ 9223372036854775806)
    (hB : plB kind pool pick l = false ∨ pot < 0 ∨ 1000000000000 < pot ∨ 2000 < ms.length) :
    Ret Tryd.prog 28 [.agg (dw nm kind round price pool pick s l.length c).toArray, .int .i64 pot, .slice s2 ms.length c2] w (fun v w' => v = .tuple #[.slice none 0 0, .int .i64 0, .bool false] ∧ Keeps [] w w') := by
  refine Ret.of_WP Tryd.func28 rfl Tryd.ntmps28 rfl ?_
  have hp := Hp.start (M := []) (w := w)
  (repeat (first | (with_reducible first | apply WP_seq | apply WP_region | apply wpl_nil | apply thenQ_n) | (apply wlp; ((first | apply pv_assign | (apply pf_loadb; exact rfl)) <;> (first | exact rfl | exact hp.agg_blk 0 rfl rfl)); (first | exact fI rfl | exact fB rfl | exact fS rfl | exact fA13 rfl)) | (apply wls; exact sbox13 hp rfl; rintro _ w ⟨b, rfl, hp⟩)))
  (apply wls; exact st_call rfl ent57 rfl (c57 nm kind round price pool pick s c l _ (hs.keep0 hp.keeps) hl); rintro _ w1 ⟨rfl, hk⟩; have hp := hp.call hk)
  (repeat (first | (with_reducible first | apply wpl_nil | apply thenQ_n) | ((first | apply wlp | (apply wlg; exact rfl; exact rfl)); (intros; ((first | apply pv_move | (apply pf_len; exact rfl) | exact pv_or rfl rfl rfl | apply pv_lss | apply pv_gtr | apply pv_not) <;> (first | exact rfl | exact ev_sel rfl (by assumption)))); (intros; (first | exact fI rfl | exact fB rfl | exact fS rfl)))))
  refine WP_cond rfl (fun _ => ?_) (fun h => ?_)
  · (repeat (first | (with_reducible first | apply WP_seq | apply WP_region | apply wpl_nil | apply thenQ_n | apply thenQ_ret | apply WP_ret) | (apply wlp; apply pv_assign; (first | exact fI rfl | exact fB rfl | exact fS rfl))))
    exact ret_tmp3 rfl rfl rfl rfl ⟨_, rfl, rfl, hp.keeps⟩
  · exfalso
    simp at h
    rcases hB with hB | hB | hB | hB
    · rw [hB] at h
      simp at h
    · omega
    · omega
    · omega
theorem c28t (nm : ByteArray) (kind round price pool pick pot : Int) (s s2 : Option Addr) (c c2 : Nat) (l : List (Int × Int)) (ms : List Int) (w : World) (hs : SlAt w 2 eT s l) (hs2 : SlAt w 1 eI s2 ms) (hl : l.length ≤ 9223372036854775806)
    (hB : plB kind pool pick l = true) (hpot : 0 ≤ pot ∧ pot ≤ 1000000000000) (hms : ms.length ≤ 2000) :
    Ret Tryd.prog 28 [.agg (dw nm kind round price pool pick s l.length c).toArray, .int .i64 pot, .slice s2 ms.length c2] w (fun v w' => ∃ g, v = .tuple #[.slice (some ⟨g, 0, none⟩) ms.length ms.length, .int .i64 (pot - lfS pot ms l), .bool true] ∧ SVL (some ⟨g, 0, none⟩) ms.length (ms.map (pfS pot ms l)) ∧ Hp w [] w' [ownL eI 3 1 (some ⟨g, 0, none⟩) ms.length (ms.map (pfS pot ms l))]) := by
  have h1 : l.length ≤ 12 ∧ l.all okT = true := by
    unfold plB at hB
    simp only [Bool.and_eq_true, decide_eq_true_eq] at hB
    exact ⟨hB.2.1, hB.2.2.1⟩
  refine Ret.of_WP Tryd.func28 rfl Tryd.ntmps28 rfl ?_
  have hp := Hp.start (M := []) (w := w)
  (repeat (with_reducible first | apply WP_seq | apply WP_region))
  (apply wls; exact sbox13 hp rfl; rintro _ w1 ⟨bd, rfl, hp⟩)
  (repeat (first | (with_reducible first | apply WP_seq | apply WP_region | apply wpl_nil | apply thenQ_n) | (apply wlp; ((first | apply pv_assign | (apply pf_loadb; exact rfl)) <;> (first | exact rfl | exact hp.agg_blk 0 rfl rfl)); (first | exact fI rfl | exact fB rfl | exact fS rfl | exact fA13 rfl))))
  (apply wls; exact st_call rfl ent57 rfl (c57 nm kind round price pool pick s c l _ (hs.keep0 hp.keeps) hl); rintro _ w2 ⟨rfl, hk⟩; have hp := hp.call hk)
  rw [hB]
  (repeat (first | (with_reducible first | apply wpl_nil | apply thenQ_n) | ((first | apply wlp | (apply wlg; exact rfl; exact rfl)); (intros; ((first | apply pv_move | (apply pf_len; exact rfl) | exact pv_orF rfl rfl | exact pv_or rfl rfl rfl | apply pv_lss | apply pv_gtr | apply pv_not) <;> (first | exact rfl | exact ev_sel rfl (by assumption)))); (intros; (first | exact fI rfl | exact fB rfl | exact fS rfl)))))
  refine WP_cond rfl (fun h => ?_) (fun _ => ?_)
  · exfalso
    simp at h
    omega
  (repeat (first | (with_reducible first | apply WP_seq | apply WP_region | apply thenQ_n | apply WP_skip) | (apply wlp; ((first | apply pv_move | (apply pf_len; exact rfl)) <;> exact rfl); (first | exact fI rfl | exact fS rfl))))
  (apply wls; exact sf_make eI 0 hp rfl rfl rfl rfl rfl rfl rfl (by omega) rfl; rintro _ w3 ⟨g, rfl, hv, hp⟩)
  (repeat (first | (with_reducible first | apply WP_seq | apply WP_block | apply WP_region | apply wpl_nil | apply thenQ_n) | (apply wlp; ((first | apply pv_move | apply pv_assign | apply pf_field | (apply pf_load; exact rfl) | (apply pf_len; exact rfl)) <;> (first | exact rfl | exact hp.cell 1 rfl rfl)); (first | exact fI rfl | exact fP rfl | exact fS rfl))))
  refine WP_loop2 [7, 10, 11, 13, 14, 15, 16, 40, 41, 42, 43, 44, 45, 46, 47, 48, 49, 50, 51, 52, 53, 54, 55, 56, 57, 58, 59, 60, 61, 62, 63, 64, 65, 66, 67, 68, 69, 70, 71, 72, 73, 74, 75, 76, 77, 78, 79, 80, 81, 82, 83, 84, 85, 86] (fun (i : Nat) (_z : List Int) F => (F.put 40 (.int .i64 (i : Int))).put 7 (.int .i64 (pot - lfS pot ms (l.take i))))
    (fun i z w' => i ≤ l.length ∧ z.length = ms.length ∧ (∀ (q : Nat) (x : Int), ms[q]? = some x → z[q]? = some (pfS pot ms (l.take i) x)) ∧ SVL (some ⟨g, 0, none⟩) ms.length z ∧ Hp w [] w' [ownL eI 3 1 (some ⟨g, 0, none⟩) ms.length z, blk bd 13 (frOf (dw nm kind round price pool pick s l.length c)) 50]) (fun i _ => l.length - i) 0 (List.replicate ms.length 0)
    (put_self (put_self (Same.eq .refl) rfl) (int_eq (by simp [lfS]))) ⟨Nat.zero_le _, by simp, ?_, hv, hp⟩ ?_
  · intro q x hq
    have hq2 := (List.getElem?_eq_some_iff.1 hq).1
    rw [List.getElem?_replicate, if_pos hq2]
    rfl
  clear hp hv
  rintro u i z w4 ⟨hi, hzl, hz, hv, hp⟩
  (repeat (first | (with_reducible first | apply WP_seq | apply WP_region | apply wpl_nil | apply thenQ_n) | (apply wlp; (apply pv_lss <;> exact rfl); exact fB rfl)))
  refine WP_cond_d rfl (fun h2 => ?_) (fun h2 => ?_)
  · have hlt : i < l.length := by omega
    obtain ⟨b0, o0, hs0, hc0⟩ := hs.base (by omega)
    have hgi := List.getElem?_eq_getElem hlt
    have hci := hc0 i _ hgi
    have htk := List.take_succ_eq_append_getElem hlt
    have htok : okT l[i] = true := List.all_eq_true.1 h1.2 _ (List.getElem_mem hlt)
    generalize l[i] = t at hci htk htok
    obtain ⟨tm, tp⟩ := t
    have htp : 0 ≤ tp ∧ tp ≤ 100 := by simpa [okT] using htok
    have hall : (l.take i).all okT = true := List.all_eq_true.2 fun x hx => List.all_eq_true.1 h1.2 x (List.mem_of_mem_take hx)
    have hlb := lfS_bd (ms := ms) hpot hall hms
    have hpb := fun m => pfS_bd (ms := ms) (m := m) hpot hall
    rw [List.length_take, Nat.min_eq_left (by omega)] at hlb hpb
    have hprt := prt_bd (ms := ms) hpot htok
    (repeat (first | (with_reducible first | apply WP_seq | apply WP_block | apply WP_region | apply thenQ_n | apply WP_skip) | (apply wlp; ((first | (apply pf_loadb; exact rfl) | (apply pf_index; exact rfl)) <;> (first | exact rfl | assumption)); exact fP rfl)))
    (apply wlp; exact pf_loads (vs := [.int .i64 tm, .int .i64 tp]) rfl rfl rfl rfl (fun j v hv => hp.old0 (hci j v hv)); exact fA2 rfl)
    (apply wls; exact salloc2 hp (zeroTy_ok rfl); rintro _ w5 ⟨bt, rfl, hp⟩)
    (apply wls0; exact sstore2 hp 0 rfl rfl rfl rfl (sizeTy_ok rfl) rfl; rintro _ w6 ⟨rfl, hp⟩)
    have hp := hp.norm 0 [.int .i64 tm, .int .i64 tp] rfl rfl
    have hp : Hp w [] w6 [blk bt 2 (frOf [.int .i64 tm, .int .i64 tp]) 57, ownL eI 3 1 (some ⟨g, 0, none⟩) ms.length z, blk bd 13 (frOf (dw nm kind round price pool pick s l.length c)) 50] := hp
    (repeat (first | (with_reducible first | apply WP_seq | apply WP_block | apply WP_region | apply wpl_nil | apply thenQ_n) | (apply wlp; ((first | apply pv_move | apply pv_assign | (apply pf_len; exact rfl)) <;> exact rfl); (first | exact fI rfl | exact fS rfl))))
    refine WP_loopS [11, 13, 46, 47, 48, 49, 50, 51, 52, 53, 54, 55, 56] (fun (j : Nat) F => (F.put 46 (.int .i64 (j : Int))).put 11 (.int .i64 ((ms.take j).count tm : Int)))
      (fun j w' => j ≤ ms.length ∧ Hp w [] w' [blk bt 2 (frOf [.int .i64 tm, .int .i64 tp]) 57, ownL eI 3 1 (some ⟨g, 0, none⟩) ms.length z, blk bd 13 (frOf (dw nm kind round price pool pick s l.length c)) 50]) (fun j => ms.length - j) 0 (put_self (put_self (Same.eq .refl) rfl) rfl) ⟨Nat.zero_le _, hp⟩ ?_
    clear hp
    rintro u2 j w7 ⟨hj, hp⟩
    (repeat (first | (with_reducible first | apply WP_seq | apply WP_region | apply wpl_nil | apply thenQ_n) | (apply wlp; (apply pv_lss <;> exact rfl); exact fB rfl)))
    refine WP_cond_d rfl (fun h3 => ?_) (fun h3 => ?_)
    · have hltj : j < ms.length := by omega
      obtain ⟨b1, o1, hs1, hc1⟩ := hs2.base (by omega)
      have hcj := hc1 j _ (List.getElem?_eq_getElem hltj) 0 _ rfl
      have hstep := count_step (m := tm) (List.take_succ_eq_append_getElem hltj)
      have hcle : (ms.take j).count tm ≤ 2000 := Nat.le_trans List.count_le_length (by rw [List.length_take]; omega)
      generalize ms[j] = x at hcj hstep
      (repeat (first | (with_reducible first | apply WP_seq | apply WP_block | apply WP_region | apply wpl_nil | apply thenQ_n | apply WP_skip) | (apply wlp; ((first | apply pv_move | apply pv_assign | apply pf_field | (apply pf_load; exact rfl) | (apply pv_eql; (first | exact rfl | exact ev_sel rfl (by assumption))) | (apply pf_index; exact rfl)) <;> (first | exact rfl | assumption | exact hp.cell 0 rfl rfl | exact hp.old0 (by assumption))); (first | exact fI rfl | exact fB rfl | exact fP rfl))))
      refine WP_cond_d rfl (fun h4 => ?_) (fun h4 => ?_)
      · rw [if_pos h4] at hstep
        (repeat (first | with_reducible apply WP_region | (apply wlp; apply pv_move; exact fI rfl)))
        (apply wlp; exact pv_add rfl rfl; exact int_eq (i64_in (by omega) (by omega)))
        (repeat (first | (with_reducible first | apply WP_region | apply wpl_nil | apply thenQ_n | apply inBlk_n) | (apply wlp; apply pv_assign; exact fI rfl)))
        (apply wlp; exact pv_add rfl rfl; exact int_eq (i64_in (by omega) (by omega)))
        (repeat (first | (with_reducible first | apply wpl_nil | apply thenQ_n) | (apply wlp; apply pv_move; exact fI rfl)))
        exact ⟨j + 1, put_self (put_self (Same.eq (by repeat (first | exact Same.hav | exact Same.refl | refine Same.put rfl ?_ | refine Same.havs rfl ?_))) rfl) (int_eq (by rw [hstep]; rfl)), ⟨by omega, hp⟩, by omega⟩
      · rw [if_neg h4] at hstep
        (repeat (with_reducible first | apply WP_region | apply thenQ_n | apply inBlk_n | apply WP_skip))
        (apply wlp; exact pv_add rfl rfl; exact int_eq (i64_in (by omega) (by omega)))
        (repeat (first | (with_reducible first | apply wpl_nil | apply thenQ_n) | (apply wlp; apply pv_move; exact fI rfl)))
        exact ⟨j + 1, put_self (put_self (Same.eq (by repeat (first | exact Same.hav | exact Same.refl | refine Same.put rfl ?_ | refine Same.havs rfl ?_))) rfl) (int_eq (by rw [hstep]; rfl)), ⟨by omega, hp⟩, by omega⟩
    · obtain rfl : j = ms.length := by omega
      rw [List.take_length]
      (repeat (first | (with_reducible first | apply WP_seq | apply WP_block | apply WP_region | apply wpl_nil | apply thenQ_n | apply thenQ_exit | apply WP_exit) | ((with_reducible apply inBlk_same); exact rfl) | (apply wlp; ((first | apply pv_move | (apply pf_len; exact rfl)) <;> exact rfl); (first | exact fI rfl | exact fS rfl))))
      refine WP_loop2 [7, 14, 15, 16, 59, 60, 61, 62, 63, 64, 65, 66, 67, 68, 69, 70, 71, 72, 73, 74, 75, 76, 77, 78, 79, 80, 81, 82, 83, 84, 85] (fun (j : Nat) (_z : List Int) F => (F.put 59 (.int .i64 (j : Int))).put 7 (.int .i64 (pot - lfS pot ms (l.take i) - ((ms.take j).count tm : Int) * prt pot ms (tm, tp))))
        (fun j z w' => j ≤ ms.length ∧ z.length = ms.length ∧ (∀ (q : Nat) (x : Int), ms[q]? = some x → z[q]? = some (pfS pot ms (l.take (if q < j then i + 1 else i)) x)) ∧ SVL (some ⟨g, 0, none⟩) ms.length z ∧ Hp w [] w' [blk bt 2 (frOf [.int .i64 tm, .int .i64 tp]) 57, ownL eI 3 1 (some ⟨g, 0, none⟩) ms.length z, blk bd 13 (frOf (dw nm kind round price pool pick s l.length c)) 50]) (fun j _ => ms.length - j) 0 z
        (put_self (put_self (Same.eq .refl) rfl) (int_eq (by simp))) ⟨Nat.zero_le _, hzl, by simpa using hz, hv, hp⟩ ?_
      clear hp hv hz hzl
      rintro u3 j z w8 ⟨hj, hzl, hz, hv, hp⟩
      (repeat (first | (with_reducible first | apply WP_seq | apply WP_region | apply wpl_nil | apply thenQ_n) | (apply wlp; (apply pv_lss <;> exact rfl); exact fB rfl)))
      refine WP_cond_d rfl (fun h3 => ?_) (fun h3 => ?_)
      · have hltj : j < ms.length := by omega
        have hjz : j < z.length := by omega
        obtain ⟨b1, o1, hs1, hc1⟩ := hs2.base (by omega)
        have hgj := List.getElem?_eq_getElem hltj
        have hcj := hc1 j _ hgj 0 _ rfl
        have hstep := count_step (m := tm) (List.take_succ_eq_append_getElem hltj)
        have hcle : (ms.take j).count tm ≤ 2000 := Nat.le_trans List.count_le_length (by rw [List.length_take]; omega)
        have hmem : ms[j] = tm → ms.count tm ≠ 0 := by
          intro h
          have : tm ∈ ms := by rw [← h]; exact List.getElem_mem hltj
          have := List.count_pos_iff.2 this
          omega
        generalize ms[j] = x at hcj hstep hgj hmem
        have hzj := hz j x hgj
        rw [if_neg (by omega)] at hzj
        have hcz := own_elem hp 1 rfl hv (fun _ => rfl) hzj 0 _ rfl
        have hcz : w8.cell? ⟨g, 0 + j * 1, none⟩ = some (.int .i64 (pfS pot ms (l.take i) x)) := hcz
        have hpx := hpb x
        have hcp := cnt_mul hcle hprt
        have hpm := pot_mul hpot htp
        have hcm := count_mul_succ ((ms.take j).count tm) (prt pot ms (tm, tp))
        have hnext : ∀ (y : Int), y = pfS pot ms (l.take (i + 1)) x → ∀ (q : Nat) (x' : Int), ms[q]? = some x' → (z.set j y)[q]? = some (pfS pot ms (l.take (if q < j + 1 then i + 1 else i)) x') := by
          intro y hy q x' hq
          rw [List.getElem?_set]
          by_cases hqj : j = q
          · subst hqj
            rw [if_pos rfl, if_pos hjz, if_pos (by omega), hy]
            rw [hgj] at hq
            cases hq
            rfl
          · rw [if_neg hqj, hz q x' hq]
            by_cases hq2 : q < j
            · rw [if_pos hq2, if_pos (by omega)]
            · rw [if_neg hq2, if_neg (by omega)]
        have hpf := pfS_app pot ms (l.take i) (tm, tp) x
        rw [← htk] at hpf
        (repeat (first | (with_reducible first | apply WP_seq | apply WP_block | apply WP_region | apply wpl_nil | apply thenQ_n | apply WP_skip) | (apply wlp; ((first | apply pv_move | apply pv_assign | apply pf_field | (apply pf_load; exact rfl) | (apply pv_eql; (first | exact rfl | exact ev_sel rfl (by assumption))) | (apply pf_index; exact rfl)) <;> (first | exact rfl | assumption | exact hp.cell 0 rfl rfl | exact hp.old0 (by assumption))); (first | exact fI rfl | exact fB rfl | exact fP rfl))))
        refine WP_cond_d rfl (fun h4 => ?_) (fun h4 => ?_)
        · rw [if_pos h4] at hstep
          rw [if_pos h4] at hpf
          have hc0 : ms.count tm ≠ 0 := hmem h4
          have hq1 : (pot * tp).tdiv 100 = (pot * tp) / 100 := Int.tdiv_eq_ediv_of_nonneg hpm.1
          have hqe : prt pot ms (tm, tp) = ((pot * tp).tdiv 100).tdiv (ms.count tm) := by unfold prt; rfl
          (repeat (first | (with_reducible first | apply WP_seq | apply WP_region) | (apply wlp; ((first | apply pv_move | apply pf_field | (apply pf_load; exact rfl)) <;> (first | exact rfl | exact hp.cell 0 rfl rfl)); (first | exact fI rfl | exact fP rfl))))
          (apply wlp; exact pv_mul rfl rfl; exact int_eq (i64_in (by omega) (by omega)))
          (apply wlp; exact pv_quo rfl rfl (by decide); exact int_eq (b := (pot * tp).tdiv 100) (i64_in (by omega) (by omega)))
          (repeat (apply wlp; apply pv_move; exact fI rfl))
          (apply wlp; exact pv_quo rfl rfl (by omega); exact int_eq (b := prt pot ms (tm, tp)) (by rw [← hqe, i64_in (by omega) (by omega)]))
          (repeat (first | (with_reducible first | apply WP_seq | apply WP_region | apply wpl_nil | apply thenQ_n) | (apply wlp; ((first | apply pv_move | apply pv_assign | (apply pf_load; exact rfl) | (apply pf_index; exact rfl)) <;> (first | exact rfl | assumption)); (first | exact fI rfl | exact fP rfl | exact fS rfl))))
          (apply wlp; exact pv_add rfl rfl; exact int_eq (i64_in (by omega) (by omega)))
          (repeat (apply wlp; ((apply pf_index; exact rfl) <;> (first | exact rfl | assumption)); exact fP rfl))
          (apply wls0; exact st_setL eI z j _ hp 1 rfl hv hjz rfl rfl (fun _ => rfl) rfl rfl (sizeTy_ok rfl); rintro _ w9 ⟨rfl, hp⟩)
          (repeat (first | (with_reducible first | apply WP_region | apply wpl_nil | apply thenQ_n) | (apply wlp; apply pv_move; exact fI rfl)))
          (apply wlp; exact pv_sub rfl rfl; exact int_eq (i64_in (by omega) (by omega)))
          (repeat (first | (with_reducible first | apply WP_region | apply wpl_nil | apply thenQ_n | apply inBlk_n) | (apply wlp; apply pv_assign; exact fI rfl)))
          (apply wlp; exact pv_add rfl rfl; exact int_eq (i64_in (by omega) (by omega)))
          (repeat (first | (with_reducible first | apply wpl_nil | apply thenQ_n) | (apply wlp; apply pv_move; exact fI rfl)))
          exact ⟨j + 1, _, put_self (put_self (Same.eq (by repeat (first | exact Same.hav | exact Same.refl | refine Same.put rfl ?_ | refine Same.havs rfl ?_))) rfl) (int_eq (by rw [hstep, hcm]; omega)), ⟨by omega, by rw [List.length_set, hzl], hnext _ hpf.symm, hv.set _ _, hp⟩, by omega⟩
        · rw [if_neg h4] at hstep
          rw [if_neg h4, Int.add_zero] at hpf
          have hsame : z.set j (pfS pot ms (l.take i) x) = z := by
            apply List.ext_getElem?
            intro q
            rw [List.getElem?_set]
            by_cases hqj : j = q
            · subst hqj
              rw [if_pos rfl, if_pos hjz, hzj]
            · rw [if_neg hqj]
          have hn2 := hnext _ hpf.symm
          rw [hsame] at hn2
          (repeat (with_reducible first | apply WP_region | apply thenQ_n | apply inBlk_n | apply WP_skip))
          (apply wlp; exact pv_add rfl rfl; exact int_eq (i64_in (by omega) (by omega)))
          (repeat (first | (with_reducible first | apply wpl_nil | apply thenQ_n) | (apply wlp; apply pv_move; exact fI rfl)))
          exact ⟨j + 1, _, put_self (put_self (Same.eq (by repeat (first | exact Same.hav | exact Same.refl | refine Same.put rfl ?_ | refine Same.havs rfl ?_))) rfl) (int_eq (by rw [hstep]; rfl)), ⟨by omega, hzl, hn2, hv, hp⟩, by omega⟩
      · obtain rfl : j = ms.length := by omega
        rw [List.take_length]
        have hlf : lfS pot ms (l.take (i + 1)) = lfS pot ms (l.take i) + (ms.count tm : Int) * prt pot ms (tm, tp) := by rw [htk]; exact lfS_app pot ms (l.take i) (tm, tp)
        (repeat (first | (with_reducible first | apply WP_region | apply thenQ_n | apply inBlk_n | apply thenQ_exit | apply WP_exit) | ((with_reducible apply inBlk_same); exact rfl)))
        (apply wlp; exact pv_add rfl rfl; exact int_eq (i64_in (by omega) (by omega)))
        (repeat (first | (with_reducible first | apply wpl_nil | apply thenQ_n) | (apply wlp; apply pv_move; exact fI rfl)))
        refine ⟨i + 1, z, put_self (put_self (Same.eq (by repeat (first | exact Same.hav | exact Same.refl | refine Same.put rfl ?_ | refine Same.havs rfl ?_))) rfl) (int_eq (by rw [hlf]; omega)), ⟨by omega, hzl, ?_, hv, hp.tail⟩, by omega⟩
        intro q x hq
        have := hz q x hq
        rwa [if_pos (List.getElem?_eq_some_iff.1 hq).1] at this
  · obtain rfl : i = l.length := by omega
    rw [List.take_length] at hz
    rw [List.take_length]
    have hzz : z = ms.map (pfS pot ms l) := by
      apply List.ext_getElem?
      intro q
      rw [List.getElem?_map]
      cases hq : ms[q]? with
      | none => rw [List.getElem?_eq_none (by rw [hzl]; simpa using hq)]; rfl
      | some x => rw [hz q x hq]; rfl
    subst hzz
    (repeat (first | (with_reducible first | apply WP_seq | apply WP_region | apply wpl_nil | apply thenQ_n | apply thenQ_exit | apply WP_ret | apply WP_exit) | ((with_reducible apply inBlk_same); exact rfl) | (apply wlp; (first | apply pv_move | apply pv_assign); (first | exact fI rfl | exact fB rfl | exact fS rfl))))
    exact ret_tmp3 rfl rfl rfl rfl ⟨_, rfl, g, rfl, hv, hp.picks [0] _ rfl rfl⟩
end Go.Proofs.YteklkjnhefnimaaDoor
/- A region that draws its order, by an invariant over the set of operations that are done; conditions are the hypotheses of the law. -/
namespace Go.Eng

/-- every edge that binds points backwards -/
def edgesOK (ops : Array Oper) : Bool := (List.range ops.size).all fun i => (opAt ops i).after.toList.all fun e => !Region.binds .any e || decide (e.on < i)
/-- all that must be done before i is done -/
def aftOK (ops : Array Oper) (i : Nat) (D : Nat → Bool) : Bool := (opAt ops i).after.toList.all fun e => !Region.binds .any e || D e.on

section
variable {P : Program} {ops : Array Oper} {Q : Exit → Act → World → Prop}
theorem any_of_inv (hed : edgesOK ops = true) (I : (Nat → Bool) → Act → World → Prop)
    (hstep : ∀ (i : Nat) (D : Nat → Bool) (a : Act) (w : World), i < ops.size → D i = false → aftOK ops i D = true → I D a w → EffStep P ops (opAt ops i) a w (fun a' w' => I (fun j => D j || Nat.beq j i) a' w'))
    (hend : ∀ (D : Nat → Bool) (a : Act) (w : World), (∀ i, i < ops.size → D i = true) → I D a w → Q .normal a w) :
    ∀ (fuel : Nat) (listed : Array Bool) (a : Act) (w : World), listed.size = ops.size → (left ops listed).length ≤ fuel → I (fun i => listed.getD i false) a w → wpAny P .any ops Q fuel listed a w := by
  have hedge : ∀ i, i < ops.size → ∀ e ∈ (opAt ops i).after.toList, Region.binds .any e = true → e.on < i := by
    intro i hi e he hb
    have h1 := List.all_eq_true.1 hed i (by simpa using hi)
    have h2 := List.all_eq_true.1 h1 e he
    rw [hb] at h2
    simpa using h2
  have hgd : ∀ (listed : Array Bool) (i : Nat), listed.size = ops.size → i < ops.size → listed.getD i true = listed.getD i false := by
    intro listed i hsz hi
    simp [Array.getD_eq_getD_getElem?, hsz, hi]
  have done : ∀ (listed : Array Bool) (a : Act) (w : World), listed.size = ops.size → left ops listed = [] → I (fun i => listed.getD i false) a w → Q .normal a w := by
    intro listed a w hsz hl h
    refine hend _ a w (fun i hi => ?_) h
    have : ¬ i ∈ left ops listed := by rw [hl]; simp
    rw [mem_left] at this
    rw [← hgd listed i hsz hi]
    cases hx : listed.getD i true
    · exact absurd ⟨hi, hx⟩ this
    · rfl
  have hrd : ∀ (listed : Array Bool) i, i ∈ Region.ready .any ops listed ↔ i < ops.size ∧ listed.getD i true = false ∧ ∀ e ∈ (opAt ops i).after.toList, Region.binds .any e = true → listed.getD e.on false = true := by
    intro listed i
    simp only [Region.ready, List.mem_filter, List.mem_range, Bool.and_eq_true, Bool.not_eq_true']
    constructor
    · rintro ⟨h1, h2, h3⟩
      refine ⟨h1, h2, ?_⟩
      rw [Array.getElem?_eq_getElem h1] at h3
      simp only [Option.map_some, Option.getD_some] at h3
      rw [Array.all_eq_true_iff_forall_mem] at h3
      intro e he hb
      have := h3 e (by simpa [opAt, h1] using he)
      rw [hb] at this
      simpa using this
    · rintro ⟨h1, h2, h3⟩
      refine ⟨h1, h2, ?_⟩
      rw [Array.getElem?_eq_getElem h1]
      simp only [Option.map_some, Option.getD_some]
      rw [Array.all_eq_true_iff_forall_mem]
      intro e he
      cases hb : Region.binds .any e
      · rfl
      · simpa using h3 e (by simpa [opAt, h1] using he) hb
  intro fuel
  induction fuel with
  | zero =>
    intro listed a w hsz hlen h
    have hl : left ops listed = [] := List.eq_nil_of_length_eq_zero (by omega)
    refine ⟨?_, done _ _ _ hsz hl h⟩
    rw [List.eq_nil_iff_forall_not_mem]
    intro i hi
    have := (hrd listed i).1 hi
    have hm : i ∈ left ops listed := mem_left.2 ⟨this.1, this.2.1⟩
    rw [hl] at hm
    cases hm
  | succ fuel ih =>
    intro listed a w hsz hlen h
    refine ⟨fun hnone => ?_, fun i hi => ?_⟩
    · cases hl : left ops listed with
      | nil => exact done _ _ _ hsz hl h
      | cons i0 rest =>
        exfalso
        have hm : i0 ∈ left ops listed := by rw [hl]; simp
        obtain ⟨h1, h2⟩ := mem_left.1 hm
        have : i0 ∈ Region.ready .any ops listed := by
          refine (hrd listed i0).2 ⟨h1, h2, fun e he hb => ?_⟩
          have hlt := hedge i0 h1 e he hb
          have hs := left_sorted ops listed
          rw [hl] at hs
          by_cases hx : listed.getD e.on true = false
          · have hm' : e.on ∈ left ops listed := mem_left.2 ⟨by omega, hx⟩
            rw [hl] at hm'
            rcases List.mem_cons.1 hm' with e1 | e1
            · omega
            · have := (List.pairwise_cons.1 hs).1 _ e1
              omega
          · rw [← hgd listed e.on hsz (by omega)]
            simpa using hx
        rw [hnone] at this
        cases this
    · obtain ⟨h1, h2, h3⟩ := (hrd listed i).1 hi
      have hm : i ∈ left ops listed := mem_left.2 ⟨h1, h2⟩
      have hD : listed.getD i false = false := by rw [← hgd listed i hsz h1]; exact h2
      have hA : aftOK ops i (fun i => listed.getD i false) = true := by
        unfold aftOK
        rw [List.all_eq_true]
        intro e he
        cases hb : Region.binds .any e
        · rfl
        · simpa using h3 e he hb
      have hlen' : (left ops (listed.setIfInBounds i true)).length ≤ fuel := by
        rw [left_set h1 hsz]
        have := filter_len (sorted_nodup (left_sorted ops listed)) hm
        omega
      have hset : (fun j => (fun i => listed.getD i false) j || Nat.beq j i) = (fun j => (listed.setIfInBounds i true).getD j false) := by
        funext j
        by_cases hj : j = i
        · subst hj
          have : Nat.beq j j = true := Nat.beq_refl j
          simp [Array.getD_eq_getD_getElem?, hsz, h1, this]
        · have : Nat.beq j i = false := nbeq_false hj
          simp only [this, Bool.or_false, Array.getD_eq_getD_getElem?, Array.getElem?_setIfInBounds]
          rw [if_neg (fun e => hj e.symm)]
      have hst := hstep i _ a w h1 hD hA h
      rw [hset] at hst
      have hio : ops[i]? = some (opAt ops i) := by simp [opAt, Array.getElem?_eq_getElem h1]
      have hnext : ∀ a' w', I (fun j => (listed.setIfInBounds i true).getD j false) a' w' → wpAny P .any ops Q fuel (listed.setIfInBounds i true) a' w' := fun a' w' h => ih _ a' w' (by simpa using hsz) hlen' h
      unfold wpOp
      simp only [hio]
      cases hw : Region.wanted (opAt ops i) (yielded ops a.tmps)
      · simp only [Bool.false_eq_true, if_false]
        exact hnext _ _ (hst.2 hw)
      · simp only [if_true]
        exact .inl ((hst.1 hw).wp fun v w' h => hnext _ _ h)
end

section
variable {P : Program} {n : Nat} {Q : Exit → Fr → World → Prop} {F : Fr} {w : World} {ops : Array Oper}
/-- one operation of the region, over frames -/
def EffF (P : Program) (n : Nat) (ops : Array Oper) (o : Oper) (F : Fr) (w : World) (K : Fr → World → Prop) : Prop := EffStep P ops o (act n F) w (fun a' w' => ∃ F', a' = act n F' ∧ K F' w')
theorem WP_drawI {id : Nat} {l : List Oper} (hm : P.follows .mixedOrders = true) (hed : edgesOK l.toArray = true) (I : (Nat → Bool) → Fr → World → Prop) (h0 : I (fun _ => false) F w.drew)
    (hstep : ∀ (i : Nat) (D : Nat → Bool) (F : Fr) (w : World), i < l.length → D i = false → aftOK l.toArray i D = true → I D F w → EffF P n l.toArray (opAt l.toArray i) F w (fun F' w' => I (fun j => D j || Nat.beq j i) F' w'))
    (hend : ∀ (D : Nat → Bool) (F : Fr) (w : World), (∀ i, i < l.length → D i = true) → I D F w → Q .normal F w) : WP P n (.region id l.toArray true) Q F w := by
  refine wp_region_any hm ?_
  refine any_of_inv hed (fun D a w => ∃ F', a = act n F' ∧ I D F' w) ?_ ?_ l.toArray.size _ _ _ (by simp) ?_ ⟨F, rfl, ?_⟩
  · rintro i D a w hi hD hA ⟨F', rfl, hI⟩
    exact hstep i D F' w (by simpa using hi) hD hA hI
  · rintro D a w hD ⟨F', rfl, hI⟩
    exact ⟨F', rfl, hend D F' w (fun i hi => hD i (by simpa using hi)) hI⟩
  · unfold left
    exact Nat.le_trans (List.length_filter_le _ _) (by simp)
  · have : (fun i => (Array.replicate l.toArray.size false).getD i false) = (fun _ => false) := by
      funext i
      simp only [Array.getD_eq_getD_getElem?]
      rw [Array.getElem?_replicate]
      split <;> rfl
    rw [this]
    exact h0
variable {d : Nat} {op : Op} {ty : TypeId} {pos : String} {aft : Array Edge} {K : Fr → World → Prop}
theorem effN {R : Value → World → Prop} (hs : StepF P n ⟨some d, op, ty, pos, aft, none⟩ F w R) (h : ∀ v w', R v w' → K (F.put d v) w') : EffF P n ops ⟨some d, op, ty, pos, aft, none⟩ F w K :=
  ⟨fun _ => Step.mono hs fun v w' hr => ⟨F.put d v, by rw [act_put]; rfl, h v w' hr⟩, fun hw => by simp [Region.wanted] at hw⟩
theorem effNp {r v : Value} (hp : PV P n w F ⟨some d, op, ty, pos, aft, none⟩ r) (hv : r = v) (h : K (F.put d v) w) : EffF P n ops ⟨some d, op, ty, pos, aft, none⟩ F w K := by
  subst hv
  refine effN (R := fun u w' => u = r ∧ w' = w) (.inl ⟨r, w, ?_, rfl, rfl⟩) ?_
  · rw [act_eval]; exact hp
  · rintro u w' ⟨rfl, rfl⟩; exact h
theorem effT {R : Value → World → Prop} {j : Nat} {want : Bool} {e : Nat} (hj : gslot ops j = some e) (hc : ev n F (.tmp e) = .bool want) (hs : StepF P n ⟨some d, op, ty, pos, aft, some (j, want)⟩ F w R) (h : ∀ v w', R v w' → K (F.put d v) w') :
    EffF P n ops ⟨some d, op, ty, pos, aft, some (j, want)⟩ F w K :=
  ⟨fun _ => Step.mono hs fun v w' hr => ⟨F.put d v, by rw [act_put]; rfl, h v w' hr⟩, fun hw => by rw [wanted_act rfl hj hc] at hw; simp at hw⟩
theorem effTp {r v : Value} {j : Nat} {want : Bool} {e : Nat} (hj : gslot ops j = some e) (hc : ev n F (.tmp e) = .bool want) (hp : PV P n w F ⟨some d, op, ty, pos, aft, some (j, want)⟩ r) (hv : r = v) (h : K (F.put d v) w) :
    EffF P n ops ⟨some d, op, ty, pos, aft, some (j, want)⟩ F w K := by
  subst hv
  refine effT (R := fun u w' => u = r ∧ w' = w) hj hc (.inl ⟨r, w, ?_, rfl, rfl⟩) ?_
  · rw [act_eval]; exact hp
  · rintro u w' ⟨rfl, rfl⟩; exact h
end
theorem inS_of_mem : ∀ {S : List Nat} {i : Nat}, i ∈ S → inS S i = true
  | [], _, h => by cases h
  | d :: S, i, h => by
    simp only [inS]
    rcases List.mem_cons.1 h with rfl | h
    · rw [Nat.beq_refl]; rfl
    · rw [inS_of_mem h]
      cases Nat.beq i d <;> rfl
/-- slots from a base on, as far as their operations are done; the others are those of F0 -/
structure Dn (b m : Nat) (V : Nat → Value) (F0 : Fr) (D : Nat → Bool) (F : Fr) : Prop where
  at_ : ∀ j, j < m → D j = true → F (b + j) = V j
  out : ∀ s, s < b ∨ b + m ≤ s → F s = F0 s
theorem Dn.start {b m : Nat} {V : Nat → Value} {F0 : Fr} : Dn b m V F0 (fun _ => false) F0 := ⟨by simp, fun _ _ => rfl⟩
theorem Dn.put {b m i : Nat} {V : Nat → Value} {F0 F : Fr} {D : Nat → Bool} (h : Dn b m V F0 D F) (hi : i < m) : Dn b m V F0 (fun j => D j || Nat.beq j i) (F.put (b + i) (V i)) := by
  refine ⟨fun j hj hD => ?_, fun s hs => ?_⟩
  · by_cases hji : j = i
    · subst hji
      have : Nat.beq (b + j) (b + j) = true := Nat.beq_refl _
      simp [Fr.put, this]
    · have h1 : Nat.beq j i = false := nbeq_false hji
      rw [h1, Bool.or_false] at hD
      have h2 : Nat.beq (b + j) (b + i) = false := nbeq_false (by omega)
      simp only [Fr.put, h2, cond_false]
      exact h.at_ j hj hD
  · have h2 : Nat.beq s (b + i) = false := nbeq_false (by omega)
    simp only [Fr.put, h2, cond_false]
    exact h.out s hs
theorem Dn.same {b m : Nat} {V : Nat → Value} {F0 F : Fr} {D : Nat → Bool} (h : Dn b m V F0 D F) : Same (List.range' b m) F F0 := by
  intro s hs
  refine h.out s ?_
  rcases Nat.lt_or_ge s b with h1 | h1
  · exact .inl h1
  · rcases Nat.lt_or_ge s (b + m) with h2 | h2
    · rw [inS_of_mem (List.mem_range'_1.2 ⟨h1, h2⟩)] at hs
      cases hs
    · exact .inr h2
theorem Dn.slot {b m n : Nat} {V : Nat → Value} {F0 F : Fr} {D : Nat → Bool} (h : Dn b m V F0 D F) (j : Nat) (hD : D j = true) (hj : Nat.blt j m = true) (hn : Nat.blt (b + j) n = true) : ev n F (.tmp (b + j)) = V j := by
  simp only [ev, hn, cond_true]
  exact h.at_ j (lt_of_nblt hj) hD
theorem Dn.old {b m n : Nat} {V : Nat → Value} {F0 F : Fr} {D : Nat → Bool} (h : Dn b m V F0 D F) (s : Nat) (hs : (Nat.blt s b || Nat.ble (b + m) s) = true) (hn : Nat.blt s n = true) : ev n F (.tmp s) = F0 s := by
  simp only [ev, hn, cond_true]
  refine h.out s ?_
  rcases Bool.or_eq_true _ _ ▸ hs with h1 | h1
  · exact .inl (lt_of_nblt h1)
  · exact .inr (Nat.le_of_ble_eq_true h1)
end Go.Eng
/- sanity of the laws of layer 18 returns true; no conditions. -/
namespace Go.Proofs.YteklkjnhefnimaaDoor
open Go.Eng Go.Dig

theorem lt1000 {n : Nat} (h : n < 2 ^ 32) : Sm n := ⟨32, by decide, h⟩
/-- the numbers of the three chances of sanity -/
theorem san_num {k : Nat} (hk : k < 3) : ∃ cn cd e : Nat, chA 5 2 k / Nat.gcd (chA 5 2 k) (chZ 5 2) = cn ∧ chZ 5 2 / Nat.gcd (chA 5 2 k) (chZ 5 2) = cd ∧ RF cn cd ∧ cn * 10 / Nat.gcd (cn * 10) (cd * 1) = e ∧ cd * 1 / Nat.gcd (cn * 10) (cd * 1) = 1 ∧ ([3, 6, 1] : List Int)[k]? = some (e : Int) ∧ e < 10 := by
  match k, hk with
  | 0, _ => exact ⟨3, 10, 3, by decide, by decide, ⟨lt1000 (by decide), lt1000 (by decide), by decide, by decide⟩, by decide, by decide, rfl, by decide⟩
  | 1, _ => exact ⟨3, 5, 6, by decide, by decide, ⟨lt1000 (by decide), lt1000 (by decide), by decide, by decide⟩, by decide, by decide, rfl, by decide⟩
  | 2, _ => exact ⟨1, 10, 1, by decide, by decide, ⟨lt1000 (by decide), lt1000 (by decide), by decide, by decide⟩, by decide, by decide, rfl, by decide⟩
def sanV (cn cd e k nb : Nat) : Nat → Value
  | 0 => .bool true
  | 1 => .bool false
  | 2 => .bool false
  | 3 => RV cn cd
  | 4 => RV 10 1
  | 5 => RV e 1
  | 6 => .slice (some ⟨nb, 0, none⟩) 3 3
  | 7 => .int .i64 (k : Int)
  | 8 => .pointer (some ⟨nb, 0 + k * 1, none⟩)
  | 9 => .int .i64 (e : Int)
  | 10 => RV e 1
  | 11 => .int .i64 0
  | 12 => .bool false
  | _ => .bool false
def sanL (pg mb db tb : Nat) (s : Option Addr) (c : Nat) : List Ent := [ownL eI 3 1 (some ⟨pg, 0, none⟩) 4 [50, 15, 15, 0], blk mb 4 (frOf [.int .i64 2, .int .i64 1, .int .i64 1, .int .i64 0]) 3, blk db 13 (frOf (dw ⟨#[]⟩ 1 0 0 5 2 (some ⟨tb, 0, none⟩) 2 2)) 50, blk tb 4 (frOf [.int .i64 2, .int .i64 50, .int .i64 1, .int .i64 30]) 57, ownL eI 3 1 s c [2, 3]]
theorem RF_one {e : Nat} (h : e < 1000) : RF e 1 := ⟨lt1000 (Nat.lt_trans h (by decide)), lt1000 (by decide), by decide, Nat.gcd_one_right e⟩

attribute [local irreducible] PV StepF wpl wpd WP Ret
attribute [local irreducible] Fit RB

theorem c11 (w : World) : Ret Tryd.prog 11 [] w (fun v w' => v = .bool true ∧ Keeps [] w w') := by
  refine Ret.of_WP Tryd.func11 rfl Tryd.ntmps11 rfl ?_
  have hp := Hp.start (M := []) (w := w)
  (repeat (first | (with_reducible first | apply WP_seq | apply WP_region | apply wpl_nil | apply thenQ_n) | (apply wlp; apply pv_assign; exact fB rfl)))
  (apply wls; exact sf_slice hp rfl rfl rfl rfl rfl rfl rfl; rintro _ w1 ⟨b1, rfl, hp⟩)
  have hs1 : SlAt w1 1 eI (some ⟨b1, 0, none⟩) [1, 3] := blk_SlAt [1, 3] hp 0 rfl (fun _ => rfl)
  (apply wls; exact st_call rfl ent22 rfl (c22 5 [1, 3] _ 2 _ hs1 (by decide)); rintro _ w2 ⟨rfl, hk⟩; have hp := (hp.call hk).tail)
  clear hs1
  (repeat (first | (with_reducible first | apply WP_seq | apply WP_region | apply wpl_nil | apply thenQ_n) | (apply wlp; ((first | apply pv_move | apply pv_assign | apply pv_extract) <;> exact rfl); (first | exact fB rfl | exact fT rfl | exact fU rfl))))
  (apply wls; exact st_call rfl ent13 rfl (c13 4 _ (by decide)))
  rintro _ w3 ⟨rfl, hk⟩
  have hp := hp.call hk
  (apply wls; exact st_call rfl ent19 rfl (c19 5 2 4 _ (Fit.small (by decide))); rintro _ w4 ⟨s, c, rfl, hvs, hps⟩; have hp := hp.join hps)
  have hp : Hp w [] w4 [ownL eI 3 1 s c [2, 3]] := hp
  have hvs : SVL s c ([2, 3] : List Int) := hvs
  clear hps
  (repeat (first | (with_reducible first | apply WP_seq | apply WP_region | apply wpl_nil | apply thenQ_n) | (apply wlp; ((first | apply pv_move | apply pv_assign | apply pv_extract | (apply pf_build; exact rfl)) <;> exact rfl); (first | exact fB rfl | exact fS rfl | exact fA2 rfl | exact fU rfl))))
  (apply wls; exact sf_slice hp rfl rfl rfl rfl rfl rfl rfl; rintro _ w5 ⟨tb, rfl, hp⟩)
  (repeat (apply wlp; ((apply pf_build; exact rfl) <;> exact rfl); exact fA13 rfl))
  (apply wls; exact salloc13 hp (zeroTy_ok rfl); rintro _ w6 ⟨db, rfl, hp⟩)
  (apply wls0; exact sstore13 hp 0 rfl rfl rfl rfl (sizeTy_ok rfl) rfl; rintro _ w7 ⟨rfl, hp⟩)
  have hp := hp.norm 0 (dw ⟨#[]⟩ 1 0 0 5 2 (some ⟨tb, 0, none⟩) 2 2) rfl rfl
  have hp : Hp w [] w7 [blk db 13 (frOf (dw ⟨#[]⟩ 1 0 0 5 2 (some ⟨tb, 0, none⟩) 2 2)) 50, blk tb 4 (frOf [.int .i64 2, .int .i64 50, .int .i64 1, .int .i64 30]) 57, ownL eI 3 1 s c [2, 3]] := hp
  (repeat (first | (with_reducible first | apply WP_seq | apply WP_region | apply wpl_nil | apply thenQ_n) | (apply wlp; ((apply pf_loadb; exact rfl) <;> (first | exact rfl | exact hp.agg_blk 0 rfl rfl)); exact fA13 rfl)))
  (apply wls; exact sf_slice hp rfl rfl rfl rfl rfl rfl rfl; rintro _ w8 ⟨mb, rfl, hp⟩)
  have hp : Hp w [] w8 [blk mb 4 (frOf [.int .i64 2, .int .i64 1, .int .i64 1, .int .i64 0]) 3, blk db 13 (frOf (dw ⟨#[]⟩ 1 0 0 5 2 (some ⟨tb, 0, none⟩) 2 2)) 50, blk tb 4 (frOf [.int .i64 2, .int .i64 50, .int .i64 1, .int .i64 30]) 57, ownL eI 3 1 s c [2, 3]] := hp
  have hsm : SlAt w8 1 eI (some ⟨mb, 0, none⟩) [2, 1, 1, 0] := blk_SlAt [2, 1, 1, 0] hp 0 rfl (fun _ => rfl)
  have hst : SlAt w8 2 eT (some ⟨tb, 0, none⟩) [(2, 50), (1, 30)] := blk_SlAt [(2, 50), (1, 30)] hp 2 rfl (fun _ => rfl)
  (apply wls; exact st_call rfl ent28 rfl (c28t ⟨#[]⟩ 1 0 0 5 2 101 _ _ 2 4 [(2, 50), (1, 30)] [2, 1, 1, 0] _ hst hsm (by decide) (by decide) (by decide) (by decide)); rintro _ w9 ⟨pg, rfl, hvp, hpp⟩; have hp := hp.join hpp)
  have hst := hst.keep0 hpp.keeps
  clear hpp hsm
  have hp : Hp w [] w9 (sanL pg mb db tb s c) := hp
  have hvp : SVL (some ⟨pg, 0, none⟩) 4 ([50, 15, 15, 0] : List Int) := hvp
  clear hst
  (repeat (first | (with_reducible first | apply WP_seq | apply WP_block | apply WP_region | apply wpl_nil | apply thenQ_n) | (apply wlp; ((first | apply pv_move | apply pv_assign | apply pv_extract) <;> exact rfl); (first | exact fI rfl | exact fB rfl | exact fS rfl | exact fU rfl))))
  refine WP_loopS [0, 9, 10, 11, 34, 35, 36, 37, 38, 39, 40, 41, 42, 43, 44, 45, 46, 47, 48, 49, 50, 51, 52, 53, 54, 55, 56, 57] (fun (k : Nat) F => F.put 9 (.int .i64 (k : Int)))
    (fun k w' => k ≤ 3 ∧ Hp w [] w' (sanL pg mb db tb s c)) (fun k => 3 - k) 0 (put_self (Same.eq .refl) rfl) ⟨by decide, hp⟩ ?_
  clear hp
  rintro u k w10 ⟨hk3, hp⟩
  (repeat (first | (with_reducible first | apply WP_seq | apply WP_region | apply wpl_nil | apply thenQ_n) | (apply wlp; ((first | apply pv_move | apply pv_lss) <;> exact rfl); (first | exact fI rfl | exact fB rfl))))
  refine WP_cond_d rfl (fun h => ?_) (fun h => ?_)
  · have hk3 : k < 3 := by omega
    obtain ⟨cn, cd, e, h1, h2, hrf, h3, h4, h5, he⟩ := san_num hk3
    have hst : SlAt w10 2 eT (some ⟨tb, 0, none⟩) [(2, 50), (1, 30)] := blk_SlAt [(2, 50), (1, 30)] hp 3 rfl (fun _ => rfl)
    have h30 := c30t ⟨#[]⟩ 1 0 0 5 2 (k : Int) _ 2 [(2, 50), (1, 30)] w10 hst (by decide) (by decide) (by omega)
    rw [h1, h2] at h30
    (repeat (first | (with_reducible first | apply WP_seq | apply WP_block | apply WP_region | apply thenQ_n | apply WP_skip) | (apply wlp; ((first | apply pv_move | (apply pf_loadb; exact rfl)) <;> (first | exact rfl | exact hp.agg_blk 2 rfl rfl)); (first | exact fI rfl | exact fA13 rfl))))
    (apply wls; exact st_call rfl ent30 rfl h30; rintro _ w11 ⟨rfl, hk⟩; have hp := hp.call hk)
    (repeat (apply wlp; ((first | apply pv_move | apply pv_extract) <;> exact rfl); (first | exact fB rfl | exact fA3 rfl | exact fU rfl)))
    (apply wls; exact salloc3 hp (zeroTy_ok rfl); rintro _ w12 ⟨cb, rfl, hp⟩)
    (apply wls0; exact sstore3 hp 0 rfl rfl rfl rfl (sizeTy_ok rfl) rfl; rintro _ w13 ⟨rfl, hp⟩)
    have hp := hp.norm 0 [.bool false, .string (ofN cn), .string (ofN cd)] rfl rfl
    have hp : Hp w [] w13 (blk cb 3 (frOf [.bool false, .string (ofN cn), .string (ofN cd)]) 62 :: sanL pg mb db tb s c) := hp
    clear hst h30
    (repeat (first | (with_reducible first | apply WP_seq | apply wpl_nil | apply thenQ_n) | (apply wlp; apply pv_assign; exact fB rfl)))
    refine WP_drawI mixed (by kernel_rfl) (fun D F w' => ∃ nb, Dn 44 14 (sanV cn cd e k nb) _ D F ∧ (D 8 = true → D 6 = true) ∧ Hp w [] w' (blk cb 3 (frOf [.bool false, .string (ofN cn), .string (ofN cd)]) 62 :: sanL pg mb db tb s c) ∧ (D 6 = true → Hp w [] w' (blk nb 3 (frOf [.int .i64 3, .int .i64 6, .int .i64 1]) 3 :: blk cb 3 (frOf [.bool false, .string (ofN cn), .string (ofN cd)]) 62 :: sanL pg mb db tb s c))) ⟨0, Dn.start, by simp, hp.drew, by simp⟩ ?_ ?_
    · rintro i D F w14 hi hDi hA ⟨nb, hD, h86, hp0, hp1⟩
      have keepD : ∀ i, i ≠ 6 → i ≠ 8 → ((fun j => D j || Nat.beq j i) 8 = true → (fun j => D j || Nat.beq j i) 6 = true) := by
        intro i h6 h8 h
        have e8 : Nat.beq 8 i = false := nbeq_false (fun e => h8 e.symm)
        simp only [e8, Bool.or_false] at h
        simp [h86 h]
      have same6 : ∀ i, i ≠ 6 → (fun j => D j || Nat.beq j i) 6 = true → D 6 = true := by
        intro i h6 h
        have e6 : Nat.beq 6 i = false := nbeq_false (fun e => h6 e.symm)
        simpa only [e6, Bool.or_false] using h
      have nxt : ∀ i w', i < 14 → i ≠ 6 → i ≠ 8 → Keeps [] w14 w' → ∃ nb', Dn 44 14 (sanV cn cd e k nb') _ (fun j => D j || Nat.beq j i) (F.put (44 + i) (sanV cn cd e k nb i)) ∧ ((fun j => D j || Nat.beq j i) 8 = true → (fun j => D j || Nat.beq j i) 6 = true) ∧ Hp w [] w' (blk cb 3 (frOf [.bool false, .string (ofN cn), .string (ofN cd)]) 62 :: sanL pg mb db tb s c) ∧ ((fun j => D j || Nat.beq j i) 6 = true → Hp w [] w' (blk nb' 3 (frOf [.int .i64 3, .int .i64 6, .int .i64 1]) 3 :: blk cb 3 (frOf [.bool false, .string (ofN cn), .string (ofN cd)]) 62 :: sanL pg mb db tb s c)) :=
        fun i w' h1 h2 h3 hk => ⟨nb, hD.put h1, keepD i h2 h3, hp0.call hk, fun h => (hp1 (same6 i h2 h)).call hk⟩
      have hf10 : Fit 10 := Fit.small (by decide)
      match i, hi with
      | 0, _ => exact effNp pv_move (hD.old 11 rfl rfl) (nxt 0 w14 (by decide) (by decide) (by decide) .refl)
      | 1, _ =>
        have a0 : D 0 = true := (Bool.and_eq_true _ _ ▸ (show (D 0 && true) = true from hA)).1
        exact effNp (pv_not (hD.slot 0 a0 rfl rfl)) rfl (nxt 1 w14 (by decide) (by decide) (by decide) .refl)
      | 2, _ =>
        have a0 : D 1 = true := (Bool.and_eq_true _ _ ▸ (show (D 1 && true) = true from hA)).1
        exact effNp pv_move (hD.slot 1 a0 rfl rfl) (nxt 2 w14 (by decide) (by decide) (by decide) .refl)
      | 3, _ =>
        have a2 : D 2 = true := (Bool.and_eq_true _ _ ▸ (show (D 2 && true) = true from hA)).1
        exact effTp rfl (hD.slot 2 a2 rfl rfl) (pf_loadb rfl rfl (hD.old 10 rfl rfl) (hp0.agg_blk 0 rfl rfl)) rfl (nxt 3 w14 (by decide) (by decide) (by decide) .refl)
      | 4, _ =>
        have hA : (D 2 && (D 2 && true)) = true := hA
        simp only [Bool.and_eq_true] at hA
        refine effT rfl (hD.slot 2 hA.1 rfl rfl) (st_call rfl ent32 rfl (c32 10 _ (by decide) (by decide))) ?_
        rintro _ w' ⟨rfl, hk⟩
        exact nxt 4 w' (by decide) (by decide) (by decide) hk
      | 5, _ =>
        have hA : (D 3 && (D 4 && (D 4 && (D 2 && true)))) = true := hA
        simp only [Bool.and_eq_true] at hA
        have h31 := c31 cn cd 10 1 w14 hrf (RF_one (by decide))
        rw [h3, h4] at h31
        refine effT rfl (hD.slot 2 hA.2.2.2.1 rfl rfl) (st_call2 rfl ent31 (hD.slot 3 hA.1 rfl rfl) (hD.slot 4 hA.2.1 rfl rfl) h31) ?_
        rintro _ w' ⟨rfl, hk⟩
        exact nxt 5 w' (by decide) (by decide) (by decide) hk
      | 6, _ =>
        have a2 : D 2 = true := (Bool.and_eq_true _ _ ▸ (show (D 2 && true) = true from hA)).1
        refine effT rfl (hD.slot 2 a2 rfl rfl) (sf_slice hp0 rfl rfl rfl rfl rfl rfl rfl) ?_
        rintro _ w' ⟨nb', rfl, hp'⟩
        have h8 : D 8 = false := by
          cases h : D 8
          · rfl
          · rw [h86 h] at hDi; cases hDi
        refine ⟨nb', ?_, ?_, hp'.tail, fun _ => hp'⟩
        · have hD' : Dn 44 14 (sanV cn cd e k nb') _ D F := ⟨fun j hj hj2 => by
            have := hD.at_ j hj hj2
            rw [this]
            match j, hj with
            | 6, _ => rw [hDi] at hj2; cases hj2
            | 8, _ => rw [h8] at hj2; cases hj2
            | 0, _ => rfl
            | 1, _ => rfl
            | 2, _ => rfl
            | 3, _ => rfl
            | 4, _ => rfl
            | 5, _ => rfl
            | 7, _ => rfl
            | 9, _ => rfl
            | 10, _ => rfl
            | 11, _ => rfl
            | 12, _ => rfl
            | 13, _ => rfl, hD.out⟩
          exact hD'.put (i := 6) (by decide)
        · intro _
          simp
      | 7, _ =>
        have a2 : D 2 = true := (Bool.and_eq_true _ _ ▸ (show (D 2 && true) = true from hA)).1
        exact effTp rfl (hD.slot 2 a2 rfl rfl) pv_move (hD.old 9 rfl rfl) (nxt 7 w14 (by decide) (by decide) (by decide) .refl)
      | 8, _ =>
        have hA : (D 6 && (D 7 && (D 2 && true))) = true := hA
        simp only [Bool.and_eq_true] at hA
        refine effTp rfl (hD.slot 2 hA.2.2.1 rfl rfl) (pf_index rfl (hD.slot 6 hA.1 rfl rfl) (hD.slot 7 hA.2.1 rfl rfl) rfl hk3) rfl ?_
        exact ⟨nb, hD.put (i := 8) (by decide), fun _ => by simp [hA.1], hp0, fun _ => hp1 hA.1⟩
      | 9, _ =>
        have hA : (D 8 && (D 2 && true)) = true := hA
        simp only [Bool.and_eq_true] at hA
        have hs3 : SlAt w14 1 eI (some ⟨nb, 0, none⟩) [3, 6, 1] := blk_SlAt [3, 6, 1] (hp1 (h86 hA.1)) 0 rfl (fun _ => rfl)
        obtain ⟨b0, o0, e0, hc0⟩ := hs3 k _ h5
        cases e0
        exact effTp rfl (hD.slot 2 hA.2.1 rfl rfl) (pf_load rfl (hD.slot 8 hA.1 rfl rfl) (hc0 0 _ rfl)) rfl (nxt 9 w14 (by decide) (by decide) (by decide) .refl)
      | 10, _ =>
        have hA : (D 9 && (D 5 && (D 2 && true))) = true := hA
        simp only [Bool.and_eq_true] at hA
        refine effT rfl (hD.slot 2 hA.2.2.1 rfl rfl) (st_call1 rfl ent32 (hD.slot 9 hA.1 rfl rfl) (c32 (e : Int) _ (by omega) (by omega))) ?_
        rintro _ w' ⟨rfl, hk⟩
        exact nxt 10 w' (by decide) (by decide) (by decide) hk
      | 11, _ =>
        have hA : (D 5 && (D 10 && (D 10 && (D 2 && true)))) = true := hA
        simp only [Bool.and_eq_true] at hA
        have h35 := c35 e 1 e 1 w14 (RF_one (by omega)) (RF_one (by omega))
        rw [if_neg (by omega), if_pos rfl] at h35
        refine effT rfl (hD.slot 2 hA.2.2.2.1 rfl rfl) (st_call2 rfl ent35 (hD.slot 5 hA.1 rfl rfl) (hD.slot 10 hA.2.1 rfl rfl) h35) ?_
        rintro _ w' ⟨rfl, hk⟩
        exact nxt 11 w' (by decide) (by decide) (by decide) hk
      | 12, _ =>
        have hA : (D 11 && (D 2 && true)) = true := hA
        simp only [Bool.and_eq_true] at hA
        exact effTp rfl (hD.slot 2 hA.2.1 rfl rfl) (pv_neq (hD.slot 11 hA.1 rfl rfl) rfl) rfl (nxt 12 w14 (by decide) (by decide) (by decide) .refl)
      | 13, _ =>
        have hA : (D 2 && (D 12 && true)) = true := hA
        simp only [Bool.and_eq_true] at hA
        exact effNp (pv_orF (hD.slot 2 hA.1 rfl rfl) (hD.slot 12 hA.2.1 rfl rfl)) rfl (nxt 13 w14 (by decide) (by decide) (by decide) .refl)
    · rintro D F w14 hall ⟨nb, hD, h86, hp0, hp1⟩
      have h57 := hD.at_ 13 (by decide) (hall 13 (by decide))
      have hF : F = (Fr.hav [44, 45, 46, 47, 48, 49, 50, 51, 52, 53, 54, 55, 56, 57] F _).put 57 (.bool false) := put_self (Same.eq hD.same) h57
      rw [hF]
      have hp := hp0.tail
      (repeat with_reducible apply thenQ_n)
      refine WP_cond_f rfl ?_
      (repeat (first | (with_reducible first | apply WP_region | apply thenQ_n | apply inBlk_n | apply WP_skip) | (apply wlp; apply pv_move; exact fI rfl)))
      (apply wlp; exact pv_add rfl rfl; exact int_eq (i64_in (by omega) (by omega)))
      (repeat (first | (with_reducible first | apply wpl_nil | apply thenQ_n) | (apply wlp; apply pv_assign; exact fI rfl)))
      exact ⟨k + 1, put_self (Same.eq (by repeat (first | exact Same.hav | exact Same.refl | refine Same.put rfl ?_ | refine Same.havs rfl ?_))) rfl, ⟨by omega, hp⟩, by omega⟩
  · (repeat (first | (with_reducible first | apply WP_seq | apply WP_region | apply thenQ_n | apply thenQ_exit | apply WP_exit) | ((with_reducible apply inBlk_same); exact rfl)))
    (apply wls; exact st_call rfl ent12 rfl (c12 5 2 _ (by decide)))
    rintro _ w11 ⟨rfl, hk⟩
    have hp := hp.call hk
    (apply wls; exact st_call rfl ent13 rfl (c13 10 _ (by decide)))
    rintro _ w12 ⟨rfl, hk⟩
    have hp := hp.call hk
    (apply wlp; exact pv_seql rfl rfl; exact bool_eq (b := true) (ofN_eq (chZ 5 2) 10))
    (repeat (first | (apply wlp; (intros; apply pv_move); (intros; exact fB rfl)) | ((apply wlpT; exact rfl; exact rfl); (apply pv_move); (intros; exact fB rfl)) | (apply wlpF; exact rfl; exact rfl; exact rfl) | (apply wlpU; exact rfl; exact rfl)))
    (apply wlsT; exact rfl; exact rfl; exact st_call rfl ent12 rfl (c12 5 6 _ (by decide)); rintro _ w13 ⟨rfl, hk⟩; have hp := hp.call hk)
    (apply wlsT; exact rfl; exact rfl; exact st_call rfl ent13 rfl (c13 0 _ (by decide)); rintro _ w14 ⟨rfl, hk⟩; have hp := hp.call hk)
    (apply wlpT; exact rfl; exact rfl; exact pv_seql rfl rfl; exact bool_eq (b := true) (ofN_eq (chZ 5 6) 0))
    (repeat (first | (apply wlp; (intros; (first | apply pv_move | exact pv_andT rfl rfl)); (intros; exact fB rfl)) | ((apply wlpT; exact rfl; exact rfl); ((first | apply pv_move | exact pv_andT rfl rfl)); (intros; exact fB rfl)) | (apply wlpF; exact rfl; exact rfl; exact rfl) | (apply wlpU; exact rfl; exact rfl)))
    (apply wlsT; exact rfl; exact rfl; exact st_call rfl ent15 rfl (c15 5 _ (by decide)); rintro _ w15 ⟨rfl, hk⟩; have hp := hp.call hk)
    (apply wlsT; exact rfl; exact rfl; exact st_call rfl ent13 rfl (c13 120 _ (by decide)); rintro _ w16 ⟨rfl, hk⟩; have hp := hp.call hk)
    (apply wlpT; exact rfl; exact rfl; exact pv_seql rfl rfl; exact bool_eq (b := true) (ofN_eq (fact 5) 120))
    (repeat (first | (with_reducible first | apply WP_seq | apply WP_region | apply wpl_nil | apply thenQ_n) | (apply wlp; (intros; (first | apply pv_move | apply pv_assign | exact pv_andT rfl rfl)); (intros; (first | exact fB rfl | exact fT rfl))) | ((apply wlpT; exact rfl; exact rfl); ((first | apply pv_move | apply pv_assign | exact pv_andT rfl rfl)); (intros; (first | exact fB rfl | exact fT rfl))) | (apply wlpF; exact rfl; exact rfl; exact rfl) | (apply wlpU; exact rfl; exact rfl)))
    (apply wlsT; exact rfl; exact rfl; exact st_call rfl ent13 rfl (c13 1 _ (by decide)); rintro _ w17 ⟨rfl, hk⟩; have hp := hp.call hk)
    (apply wlpT; exact rfl; exact rfl; exact pv_seql rfl rfl; exact bool_eq (b := true) (ofN_eq (if setB 5 [1, 3] = true then rkN 5 [1, 3] 2 else 0) 1))
    (repeat (first | (apply wlp; (intros; (first | apply pv_move | exact pv_andT rfl rfl)); (intros; (first | exact fB rfl | exact fS rfl))) | ((apply wlpT; exact rfl; exact rfl); ((first | apply pv_move | exact pv_andT rfl rfl)); (intros; (first | exact fB rfl | exact fS rfl))) | (apply wlpF; exact rfl; exact rfl; exact rfl) | (apply wlpU; exact rfl; exact rfl)))
    (apply wlsT; exact rfl; exact rfl; exact sf_slice hp rfl rfl rfl rfl rfl rfl rfl; rintro _ w18 ⟨b2, rfl, hp⟩)
    have hsa : SlAt w18 1 eI s [2, 3] := ownL_At hp 5 rfl hvs (fun _ => rfl)
    have hsb : SlAt w18 1 eI (some ⟨b2, 0, none⟩) [2, 3] := blk_SlAt [2, 3] hp 0 rfl (fun _ => rfl)
    (apply wlsT; exact rfl; exact rfl; exact st_call rfl ent21 rfl (c21 [2, 3] [2, 3] s _ c 2 _ hsa hsb (by decide) (by decide)); rintro _ w19 ⟨rfl, hk⟩; have hp := (hp.call hk).tail)
    clear hsa hsb
    rw [decide_eq_true (rfl : ([2, 3] : List Int) = [2, 3])]
    (repeat (first | (apply wlp; (intros; (first | apply pv_move | exact pv_andT rfl rfl)); (intros; exact fB rfl)) | ((apply wlpT; exact rfl; exact rfl); ((first | apply pv_move | exact pv_andT rfl rfl)); (intros; exact fB rfl)) | (apply wlpF; exact rfl; exact rfl; exact rfl) | (apply wlpU; exact rfl; exact rfl)))
    (apply wlsT; exact rfl; exact rfl; exact sf_slice hp rfl rfl rfl rfl rfl rfl rfl; rintro _ w20 ⟨b3, rfl, hp⟩)
    (apply wlsT; exact rfl; exact rfl; exact sf_slice hp rfl rfl rfl rfl rfl rfl rfl; rintro _ w21 ⟨b4, rfl, hp⟩)
    have hsa : SlAt w21 1 eI (some ⟨b3, 0, none⟩) [1, 2, 2, 9] := blk_SlAt [1, 2, 2, 9] hp 1 rfl (fun _ => rfl)
    have hsb : SlAt w21 1 eI (some ⟨b4, 0, none⟩) [9, 2] := blk_SlAt [9, 2] hp 0 rfl (fun _ => rfl)
    (apply wlsT; exact rfl; exact rfl; exact st_call rfl ent25 rfl (c25 [1, 2, 2, 9] [9, 2] _ _ 4 2 _ hsa hsb (by decide) (by decide)); rintro _ w22 ⟨rfl, hk⟩; have hp := (hp.call hk).tail.tail)
    clear hsa hsb
    (apply wlpT; exact rfl; exact rfl; exact pv_eql rfl rfl; exact bool_eq (b := true) (by decide))
    (repeat (first | (apply wlp; (intros; (first | apply pv_move | exact pv_andT rfl rfl)); (intros; (first | exact fB rfl | exact fS rfl))) | ((apply wlpT; exact rfl; exact rfl); ((first | apply pv_move | exact pv_andT rfl rfl)); (intros; (first | exact fB rfl | exact fS rfl))) | (apply wlpF; exact rfl; exact rfl; exact rfl) | (apply wlpU; exact rfl; exact rfl)))
    (apply wlsT; exact rfl; exact rfl; exact sf_slice hp rfl rfl rfl rfl rfl rfl rfl; rintro _ w23 ⟨b5, rfl, hp⟩)
    have hsa : SlAt w23 1 eI (some ⟨pg, 0, none⟩) [50, 15, 15, 0] := ownL_At hp 1 rfl hvp (fun _ => rfl)
    have hsb : SlAt w23 1 eI (some ⟨b5, 0, none⟩) [50, 15, 15, 0] := blk_SlAt [50, 15, 15, 0] hp 0 rfl (fun _ => rfl)
    (apply wlsT; exact rfl; exact rfl; exact st_call rfl ent21 rfl (c21 [50, 15, 15, 0] [50, 15, 15, 0] _ _ 4 4 _ hsa hsb (by decide) (by decide)); rintro _ w24 ⟨rfl, hk⟩; have hp := (hp.call hk).tail)
    clear hsa hsb
    rw [decide_eq_true (rfl : ([50, 15, 15, 0] : List Int) = [50, 15, 15, 0])]
    (repeat (first | (with_reducible first | apply wpl_nil | apply thenQ_n | apply WP_ret) | (apply wlp; (intros; ((first | apply pv_move | apply pv_assign | exact pv_andT rfl rfl | (apply pv_eql; (first | exact rfl | exact ev_sel rfl (by assumption)))) <;> exact rfl)); (intros; (first | exact fI rfl | exact fB rfl))) | ((apply wlpT; exact rfl; exact rfl); (((first | apply pv_move | apply pv_assign | exact pv_andT rfl rfl | (apply pv_eql; (first | exact rfl | exact ev_sel rfl (by assumption)))) <;> exact rfl)); (intros; (first | exact fI rfl | exact fB rfl))) | (apply wlpF; exact rfl; exact rfl; exact rfl) | (apply wlpU; exact rfl; exact rfl)))
    exact ret_tmp rfl rfl ⟨_, rfl, rfl, hp.keeps⟩
end Go.Proofs.YteklkjnhefnimaaDoor
/- How the arguments of the laws of layer 18 are read; a world in which the listed tables lie; what a law that answers true and changes nothing leaves; conditions are the hypotheses of each law. -/
namespace Go.Proofs.YteklkjnhefnimaaDoor
open Go.Eng Go.ChangeShapes Go.WideShapes Go.ChangeAt Go.RowKit Go.Deep

theorem laid : laidOutB Tryd.prog = true := by kernel_rfl
theorem ownK : ownKnob Tryd.prog.godebug = none := by kernel_rfl

theorem spot_none {w : World} {a : Addr} {v : Value} (h : w.cell? a = some v) : a.spot = none := by
  unfold World.cell? at h
  split at h
  · split at h
    · cases h
    · rename_i h2
      cases hs : a.spot
      · rfl
      · rw [hs] at h2; simp at h2
  · cases h

section
variable {H : Type} {enc : TypeId × Value → H} {P : Program} {w : World} {base : Nat} {spare : Nat → Bool} {held : Bool}

/-- a slice whose elements are read one by one reads as a list -/
theorem open_list {α : Type} {f : α → List Value} {ok : α → Prop} {t e k fuel : Nat} {cs : List Value} {x : DataW H × List MemPlace} (ht : P.underlying t = some (.slice e)) (hk : P.cellsOf e = k) (hk0 : 0 < k)
    (hop : ∀ n cs' y, DataW.trod enc P w base spare held n e cs' = some y → ∃ a, cs' = f a ∧ ok a) (h : DataW.trod enc P w base spare held fuel t cs = some x) :
    ∃ s c, ∃ l : List α, cs = [.slice s l.length c] ∧ l.length ≤ c ∧ c ≤ maxLen ∧ SlAt w k f s l ∧ (∀ a ∈ l, ok a) ∧ (l = [] ∨ ∃ es rs, x.1 = .slice es rs ∧ es.length = l.length) := by
  rcases open_slice ht h with ⟨rfl, _⟩ | ⟨a, len, cap, m, n, D, Pl, rfl, hb, hl, hm, hmm, hxe, hx⟩
  · exact ⟨none, 0, [], rfl, Nat.le_refl _, by unfold maxLen; omega, by intro i x hx; simp at hx, by simp, .inl rfl⟩
  · have hlm : len ≤ m := by rw [hmm]; split <;> omega
    rw [hk] at hx
    have hex : ∀ i : Fin len, ∃ y, w.cells? base (a.add (i * k)) k = some (f y) ∧ ok y := by
      intro i
      obtain ⟨cs', h1, h2⟩ := hx i (by omega)
      obtain ⟨y, rfl, hy⟩ := hop _ _ _ h2
      exact ⟨y, h1, hy⟩
    refine ⟨some a, cap, List.ofFn fun i => Classical.choose (hex i), by simp, by simpa using hl, hm, ?_, ?_, .inr ⟨_, _, by rw [hxe], by simp⟩⟩
    · intro i y hy
      have hi : i < len := by have := (List.getElem?_eq_some_iff.1 hy).1; simpa using this
      have hyc : Classical.choose (hex ⟨i, hi⟩) = y := by
        rw [List.getElem?_ofFn] at hy
        simpa [hi] using hy
      have hsp := (Classical.choose_spec (hex ⟨i, hi⟩)).1
      rw [hyc] at hsp
      obtain ⟨_, hlen, hc⟩ := World.cells?_some hsp
      obtain ⟨_, hlen0, hc0⟩ := World.cells?_some (Classical.choose_spec (hex ⟨0, by omega⟩)).1
      have hs0 := spot_none ((hc0 0 (by omega)).trans (List.getElem?_eq_getElem (by omega)))
      have hsa : a.spot = none := by simpa [Addr.add] using hs0
      refine ⟨a.block, a.off, ?_, fun j v hv => ?_⟩
      · cases a
        simp at hsa
        subst hsa
        rfl
      · have hj : j < k := by rw [← hlen]; exact (List.getElem?_eq_some_iff.1 hv).1
        have := (hc j hj).trans hv
        cases a
        simp at hsa
        subst hsa
        rw [addr_add, addr_add] at this
        exact this
    · intro y hy
      rw [List.mem_ofFn] at hy
      obtain ⟨i, rfl⟩ := hy
      exact (Classical.choose_spec (hex i)).2

theorem trodAll_stays (hl : laidOutB P = true) {W W' : World} (hb : Below W.heap.size W W') {sp : Nat → Bool} : ∀ (ts : List TypeId) (vs : List Value) (ds : List (DataW H)) (ps : List MemPlace),
    (∀ t ∈ ts, P.readableRec t = true ∧ t < P.types.size) → DataW.TrodAll enc P W 0 (fun _ => true) true ts vs ds ps → (∀ x ∈ ps, x.block < W.heap.size) → (∀ x ∈ ps, sp x.block = true) →
    DataW.TrodAll enc P W' 0 sp true ts vs ds ps
  | [], vs, ds, ps, _, h, _, _ => by
    obtain ⟨rfl, rfl, rfl⟩ := trodAll_nil h
    exact trodAll_mk0
  | t :: ts, vs, ds, ps, ht, h, hlt, hsp => by
    obtain ⟨v, vs', d, ds', p, q, rfl, rfl, rfl, h1, h2⟩ := trodAll_cons h
    refine ⟨p, q, ?_, trodAll_stays hl hb ts vs' ds' q (fun t h => ht t (List.mem_cons_of_mem _ h)) h2 (fun x hx => hlt x (List.mem_append_right _ hx)) (fun x hx => hsp x (List.mem_append_right _ hx)), rfl⟩
    obtain ⟨hr, hrow⟩ := ht t (List.mem_cons_self ..)
    exact WideElems.Trod_stays hl hr hrow h1 (fun x hx => hb.same (hlt x (List.mem_append_left _ hx))) (fun x hx => hsp x (List.mem_append_left _ hx))
end

/-- an array whose elements are read one by one -/
theorem arr_list {α : Type} {f : α → List Value} {ok : α → Prop} {sz : Nat} : ∀ (k : Nat) (cs : List Value), cs.length = k * sz → (∀ i, i < k → ∃ a, (cs.drop (i * sz)).take sz = f a ∧ ok a) → ∃ l : List α, l.length = k ∧ cs = l.flatMap f ∧ ∀ a ∈ l, ok a
  | 0, cs, hl, _ => ⟨[], rfl, by simpa using hl, by simp⟩
  | k + 1, cs, hl, h => by
    obtain ⟨a, ha, hoa⟩ := h 0 (by omega)
    obtain ⟨l, h1, h2, h3⟩ := arr_list (f := f) (ok := ok) (sz := sz) k (cs.drop sz) (by rw [List.length_drop, hl, Nat.succ_mul]; omega) (by
      intro i hi
      obtain ⟨b, hb, hob⟩ := h (i + 1) (by omega)
      refine ⟨b, ?_, hob⟩
      rw [List.drop_drop]
      rw [show sz + i * sz = (i + 1) * sz from by rw [Nat.succ_mul]; omega]
      exact hb)
    refine ⟨a :: l, by simp [h1], ?_, ?_⟩
    · rw [List.flatMap_cons, ← h2, ← ha]
      simp
    · intro x hx
      rcases List.mem_cons.1 hx with rfl | hx
      · exact hoa
      · exact h3 x hx
section
variable {H : Type} {enc : TypeId × Value → H} {P : Program} {w : World} {base : Nat} {spare : Nat → Bool} {held : Bool}
theorem open_arr {α : Type} {f : α → List Value} {ok : α → Prop} {t e k sz fuel : Nat} {cs : List Value} {x : DataW H × List MemPlace} (ht : P.underlying t = some (.array k e)) (he : P.cellsOf e = sz) (hc : P.cellsOf t = k * sz)
    (hop : ∀ n cs' y, DataW.trod enc P w base spare held n e cs' = some y → ∃ a, cs' = f a ∧ ok a) (h : DataW.trod enc P w base spare held fuel t cs = some x) :
    ∃ l : List α, l.length = k ∧ cs = l.flatMap f ∧ ∀ a ∈ l, ok a := by
  obtain ⟨xs, m, _, _, hl, hlen, hf⟩ := DataW.trod_array ht h
  refine arr_list k cs (by rw [hl, hc]) fun i hi => ?_
  have := hf i hi
  rw [he, List.getElem?_eq_getElem (by omega)] at this
  exact hop _ _ _ this
end
/-- what a law leaves that answers true and keeps all that was there -/
theorem post_true {H : Type} {enc : TypeId × Value → H} {f : Func} {s : ChangeSpec} {W W' : World} {args : Array Value} {ds gs : List (DataW H)} {before : List MemPlace} (hW : DataW.Whole enc Tryd.prog f.params.toList s.vars false W args.toList ds gs before)
    (hv : s.vars = []) (hr : f.resultTypes = #[4]) (hts : ∀ t ∈ f.params.toList, Tryd.prog.readableRec t = true ∧ t < Tryd.prog.types.size)
    (hres : (s.fn H (ds ++ gs)).results = [.lit (.bool true)]) (hargs : (s.fn H (ds ++ gs)).args = ds) (hvs : (s.fn H (ds ++ gs)).vars = []) (hk : Keeps [] W W') :
    s.post enc Tryd.prog f false true false false W args (.bool true) W' := by
  have hW' := hW
  obtain ⟨p, q, hA, hV, rfl, hfz, hnd⟩ := hW
  rw [hv] at hV
  obtain ⟨rfl, rfl⟩ := trodVars_none hV
  have hlt : ∀ x ∈ p, x.block < W.heap.size := fun x hx => hW'.lt x (by simpa using hx)
  refine ⟨ds, [], _, [], p, [], hW', ?_, ?_, ?_, (hk.below.frame _), fun h => by cases h⟩
  · rw [hres, hr]
    exact trodAll_cons_mk (shut_bool Tryd.underlying4 _) trodAll_mk0
  · rw [hargs]
    exact trodAll_stays laid hk.below _ _ _ _ hts hA hlt (fun x hx => by simpa using hlt x hx)
  · rw [hvs, hv]
    rfl

theorem len2 {α : Type} {l : List α} (h : l.length = 2) : ∃ c0 c1, l = [c0, c1] := by
  obtain ⟨c0, l0, rfl⟩ : ∃ a t, l = a :: t := List.exists_cons_of_length_eq_add_one h
  obtain ⟨c1, l1, rfl⟩ : ∃ a t, l0 = a :: t := List.exists_cons_of_length_eq_add_one (by simpa using h)
  have : l1 = [] := List.eq_nil_of_length_eq_zero (by simpa using h)
  subst this
  exact ⟨c0, c1, rfl⟩
theorem len3 {α : Type} {l : List α} (h : l.length = 3) : ∃ c0 c1 c2, l = [c0, c1, c2] := by
  obtain ⟨c0, l0, rfl⟩ : ∃ a t, l = a :: t := List.exists_cons_of_length_eq_add_one h
  obtain ⟨c1, l1, rfl⟩ : ∃ a t, l0 = a :: t := List.exists_cons_of_length_eq_add_one (by simpa using h)
  obtain ⟨c2, l2, rfl⟩ : ∃ a t, l1 = a :: t := List.exists_cons_of_length_eq_add_one (by simpa using h)
  have : l2 = [] := List.eq_nil_of_length_eq_zero (by simpa using h)
  subst this
  exact ⟨c0, c1, c2, rfl⟩
section
variable {H : Type} {enc : TypeId × Value → H} {w : World} {base : Nat} {spare : Nat → Bool} {held : Bool} {n : Nat} {cs : List Value} {x : DataW H × List MemPlace}
theorem rd_int (h : DataW.trod enc Tryd.prog w base spare held n 3 cs = some x) : ∃ a : Int, cs = eI a ∧ -9223372036854775808 ≤ a ∧ a ≤ 9223372036854775807 := by
  obtain ⟨a, rfl, _, hw⟩ := DataW.trod_int Tryd.underlying3 h
  have e1 : IntKind.i64.min = -9223372036854775808 := by decide
  have e2 : IntKind.i64.max = 9223372036854775807 := by decide
  simp only [Lit.wf, Bool.and_eq_true, decide_eq_true_eq, e1, e2] at hw
  exact ⟨a, rfl, hw⟩
theorem rd_ints (h : DataW.trod enc Tryd.prog w base spare held n 28 cs = some x) : ∃ s c, ∃ l : List Int, cs = [.slice s l.length c] ∧ l.length ≤ c ∧ c ≤ maxLen ∧ SlAt w 1 eI s l ∧ (∀ a ∈ l, -9223372036854775808 ≤ a ∧ a ≤ 9223372036854775807) ∧ (l = [] ∨ ∃ es rs, x.1 = .slice es rs ∧ es.length = l.length) :=
  open_list Tryd.underlying28 (by kernel_rfl) (by decide) (fun _ _ _ h => rd_int h) h
end
/-- how long a list that came in can be -/
theorem sized_list {H α : Type} {ts : List TypeId} {ds : List (DataW H)} {l : List α} {j t e k : Nat} {d : DataW H} (h : (DataW.weightsEach Tryd.prog ts ds).all (· ≤ reachBytes) = true) (ht : ts[j]? = some t) (hd : ds[j]? = some d) (hu : Tryd.prog.underlying t = some (.slice e)) (hk : Tryd.prog.bytesOf e = k)
    (hx : l = [] ∨ ∃ es rs, d = .slice es rs ∧ es.length = l.length) : l.length * k ≤ 140737488351232 := by
  rcases hx with rfl | ⟨es, rs, rfl, he⟩
  · simp
  · have h1 := sized_slice h ht hd hu
    rw [hk] at h1
    have h2 : l.length * k ≤ (es.length + rs.length) * k := Nat.mul_le_mul_right k (by omega)
    exact Nat.le_trans h2 h1
/-! ### the tables -/
def cellsL : DataW Unit → List Value
  | .lit (.int k n) => [.int k n]
  | .agg [.lit (.int k n), .lit (.int q m)] => [.int k n, .int q m]
  | _ => []
def cellsA : DataW Unit → Array Value
  | .agg l => (l.flatMap cellsL).toArray
  | _ => #[]
noncomputable def laidWorld (os : Os) : World :=
  let w0 := World.holding Tryd.prog os ⟨#[], #[], []⟩
  { w0 with heap := (w0.heap.modify 0 fun
      | .cells _ t fr => .cells (cellsA Rows.laid_unicode_utf8_first) t fr
      | o => o).modify 1 fun
      | .cells _ t fr => .cells (cellsA Rows.laid_unicode_utf8_acceptRanges) t fr
      | o => o }
set_option maxRecDepth 100000 in
theorem laidWorld_met (os : Os) (args : Array Value) : laidMetH Tryd.prog Rows.oddsMatchRow.laid ((laidWorld os).forCall (fun _ _ => 0) ⟨#[], args, []⟩).memory :=
  laidMet_of_run (ps := (List.range 32).map (fun i => MemPlace.cell 1 i) ++ (List.range 256).map (fun i => MemPlace.cell 0 i)) 8 (by kernel_rfl) (by kernel_rfl) (by kernel_rfl)
theorem agg_of_cells {v : Value} {l : List Value} (h : v.cells.toList = l) (hl : 2 ≤ l.length) : v = .agg l.toArray := by
  cases v with
  | agg vs =>
    have : vs.toList = l := h
    subst this
    rfl
  | _ =>
    exfalso
    subst h
    simp [Value.cells] at hl
theorem slice_of_cells {P : Program} {W : World} {base t e : Nat} {v : Value} {s : Option Addr} {m c : Nat} (ht : P.underlying t = some (.slice e)) (hok : Value.okWide P W .any base t v) (h : v.cells.toList = [.slice s m c]) : v = .slice s m c := by
  cases v with
  | agg vs => simp [Value.okWide, ht, Cell.okWide, Cell.ok] at hok
  | slice a1 b1 c1 =>
    have e : Value.slice a1 b1 c1 = .slice s m c := by simpa [Value.cells] using h
    exact e
  | _ => simp [Value.cells] at h
end Go.Proofs.YteklkjnhefnimaaDoor
/- sortesref18: mod, Made; conditions: the tiers lie in memory. -/
namespace Go.Proofs.YteklkjnhefnimaaDoor
open Go.Eng Go.Dig

/-- plain: the tiers of a made lottery, and what is left of 100 per cent -/
def mkT (pick : Int) : Int → List (Int × Int) → List (Int × Int)
  | _, [] => []
  | left, t :: l => (t.1 % (pick + 1), t.2 % (left + 1)) :: mkT pick (left - t.2 % (left + 1)) l
def lft : Int → List (Int × Int) → Int
  | left, [] => left
  | left, t :: l => lft (left - t.2 % (left + 1)) l
theorem mkT_app (pick : Int) (t : Int × Int) : ∀ (l : List (Int × Int)) (left : Int), mkT pick left (l ++ [t]) = mkT pick left l ++ [(t.1 % (pick + 1), t.2 % (lft left l + 1))]
  | [], left => rfl
  | u :: l, left => by
    simp only [List.cons_append, mkT, lft]
    rw [mkT_app pick t l]
theorem lft_app (t : Int × Int) : ∀ (l : List (Int × Int)) (left : Int), lft left (l ++ [t]) = lft left l - t.2 % (lft left l + 1)
  | [], left => rfl
  | u :: l, left => by
    simp only [List.cons_append, lft]
    rw [lft_app t l]
theorem lft_bd : ∀ (l : List (Int × Int)) (left : Int), 0 ≤ left → 0 ≤ lft left l ∧ lft left l ≤ left
  | [], left, h => ⟨h, Int.le_refl _⟩
  | t :: l, left, h => by
    have h1 := Int.emod_nonneg t.2 (show left + 1 ≠ 0 by omega)
    have h2 := Int.emod_lt_of_pos t.2 (show 0 < left + 1 by omega)
    have := lft_bd l (left - t.2 % (left + 1)) (by omega)
    rw [lft]
    omega
theorem mkT_len (pick : Int) : ∀ (l : List (Int × Int)) (left : Int), (mkT pick left l).length = l.length
  | [], _ => rfl
  | t :: l, left => by simp [mkT, mkT_len pick l]
theorem mkT_sum (pick : Int) : ∀ (l : List (Int × Int)) (left : Int), sumT (mkT pick left l) = left - lft left l
  | [], left => by simp [mkT, sumT, lft]
  | t :: l, left => by
    simp only [mkT, sumT, lft]
    rw [mkT_sum pick l]
    omega
theorem mkT_ok (pick : Int) : ∀ (l : List (Int × Int)) (left : Int), 0 ≤ left → left ≤ 100 → (mkT pick left l).all okT = true
  | [], _, _, _ => rfl
  | t :: l, left, h, h2 => by
    have h3 := Int.emod_nonneg t.2 (show left + 1 ≠ 0 by omega)
    have h4 := Int.emod_lt_of_pos t.2 (show 0 < left + 1 by omega)
    simp only [mkT, List.all_cons, Bool.and_eq_true]
    refine ⟨?_, mkT_ok pick l _ (by omega) (by omega)⟩
    unfold okT
    simp
    omega
/-- a made lottery is plain -/
theorem made_plain {pool pick : Int} (l : List (Int × Int)) (h1 : 0 ≤ pool) (h2 : pool ≤ 60) (h3 : 0 ≤ pick) (h4 : pick ≤ pool) (hl : l.length ≤ 12) : plB 1 pool pick (mkT pick 100 l) = true := by
  unfold plB
  have h5 := lft_bd l 100 (by decide)
  rw [decide_eq_true (by omega), mkT_len, decide_eq_true hl, mkT_ok pick l 100 (by decide) (by decide), mkT_sum, decide_eq_true (by omega)]
  rfl
theorem emod_of {n m : Int} (hm : 0 < m) : (n.tmod m + m).tmod m = n % m ∧ 0 ≤ n.tmod m + m ∧ n.tmod m + m < 2 * m := by
  have h1 := Int.tmod_lt_of_pos n hm
  have h2 := Int.lt_tmod_of_pos n hm
  refine ⟨?_, by omega, by omega⟩
  rw [Int.tmod_eq_emod_of_nonneg (by omega), Int.add_emod_right]
  conv => rhs; rw [← Int.mul_tdiv_add_tmod n m]
  rw [Int.add_comm, Int.add_mul_emod_self_left]

attribute [local irreducible] PV StepF wpl wpd WP Ret
attribute [local irreducible] Fit RB

theorem c56 (n m : Int) (w : World) (hm : 0 < m) (hm2 : m ≤ 4611686018427387904) : Ret Tryd.prog 56 [.int .i64 n, .int .i64 m] w (fun v w' => v = .int .i64 (n % m) ∧ Keeps [] w w') := by
  obtain ⟨h1, h2, h3⟩ := emod_of (n := n) hm
  refine Ret.of_WP Tryd.func56 rfl Tryd.ntmps56 rfl ?_
  have hp := Hp.start (M := []) (w := w)
  (repeat (first | (with_reducible first | apply WP_seq | apply WP_region | apply wpl_nil | apply thenQ_n) | (apply wlp; (first | apply pv_move | apply pv_assign); exact fI rfl)))
  (apply wlp; exact pv_rem rfl rfl (by omega); exact fI rfl)
  (repeat (apply wlp; apply pv_move; exact fI rfl))
  (apply wlp; exact pv_add rfl rfl; exact int_eq (i64_in (by omega) (by omega)))
  (repeat (apply wlp; apply pv_move; exact fI rfl))
  (apply wlp; exact pv_rem rfl rfl (by omega); exact int_eq h1)
  (repeat (first | (with_reducible first | apply wpl_nil | apply thenQ_n | apply WP_ret) | (apply wlp; apply pv_assign; exact fI rfl)))
  exact ret_tmp rfl rfl ⟨_, rfl, rfl, hp.keeps⟩
theorem c27 (pool pick : Int) (ts : List (Int × Int)) (s : Option Addr) (c : Nat) (w : World) (hs : SlAt w 2 eT s ts) (hl : ts.length ≤ 9223372036854775806) :
    Ret Tryd.prog 27 [.int .i64 pool, .int .i64 pick, .slice s ts.length c] w (fun v w' => ∃ s' c', v = .agg (dw ⟨#[108, 111, 116, 116, 111]⟩ 1 3 5 (pool % 61) (pick % (pool % 61 + 1)) s' (mkT (pick % (pool % 61 + 1)) 100 (ts.take 6)).length c').toArray ∧ SVL s' c' (mkT (pick % (pool % 61 + 1)) 100 (ts.take 6)) ∧ Hp w [] w' [ownL eT 57 2 s' c' (mkT (pick % (pool % 61 + 1)) 100 (ts.take 6))]) := by
  have hp1 := Int.emod_nonneg pool (show (61 : Int) ≠ 0 by decide)
  have hp2 := Int.emod_lt_of_pos pool (show (0 : Int) < 61 by decide)
  generalize hpo : pool % 61 = N at *
  have hk1 := Int.emod_nonneg pick (show N + 1 ≠ 0 by omega)
  have hk2 := Int.emod_lt_of_pos pick (show 0 < N + 1 by omega)
  have h56 := c56 pick (N + 1)
  generalize hpi : pick % (N + 1) = K at *
  refine Ret.of_WP Tryd.func27 rfl Tryd.ntmps27 rfl ?_
  have hp := (Hp.start (M := []) (w := w)).nilL eT 57 2
  (repeat (with_reducible first | apply WP_seq | apply WP_region))
  (apply wls; exact salloc13 hp (zeroTy_ok rfl); rintro _ w1 ⟨b6, rfl, hp⟩)
  (repeat (first | (with_reducible first | apply WP_seq | apply WP_region | apply wpl_nil | apply thenQ_n) | (apply wlp; apply pv_move; exact fI rfl)))
  (apply wls; exact st_call rfl ent56 rfl (c56 pool 61 _ (by decide) (by decide)); rintro _ w2 ⟨rfl, hk⟩; have hp := hp.call hk)
  rw [hpo]
  (repeat (apply wlp; ((apply pf_build; exact rfl) <;> exact rfl); exact fA13 rfl))
  (apply wls; exact salloc13 hp (zeroTy_ok rfl); rintro _ w3 ⟨b7, rfl, hp⟩)
  (apply wls0; exact sstore13 hp 0 rfl rfl rfl rfl (sizeTy_ok rfl) rfl; rintro _ w4 ⟨rfl, hp⟩)
  have hp := hp.norm 0 (dw ⟨#[108, 111, 116, 116, 111]⟩ 1 3 5 N 0 none 0 0) rfl rfl
  (repeat (first | (with_reducible first | apply WP_seq | apply WP_region | apply wpl_nil | apply thenQ_n) | (apply wlp; ((first | apply pv_move | apply pf_field | (apply pf_load; exact rfl)) <;> (first | exact rfl | exact hp.cell 0 rfl rfl)); (first | exact fI rfl | exact fP rfl))))
  (apply wlp; exact pv_add rfl rfl; exact int_eq (i64_in (by omega) (by omega)))
  (apply wls; exact st_call rfl ent56 rfl (h56 _ (by omega) (by omega)); rintro _ w5 ⟨rfl, hk⟩; have hp := hp.call hk)
  (repeat (apply wlp; (apply pf_field <;> exact rfl); exact fP rfl))
  (apply wls0; exact sstore1 hp 0 rfl rfl rfl rfl (sizeTy_ok rfl) rfl; rintro _ w6 ⟨rfl, hp⟩)
  have hp := hp.norm 0 (dw ⟨#[108, 111, 116, 116, 111]⟩ 1 3 5 N K none 0 0) rfl rfl
  have hp : Hp w [] w6 [blk b7 13 (frOf (dw ⟨#[108, 111, 116, 116, 111]⟩ 1 3 5 N K none ([] : List (Int × Int)).length 0)) 50, blk b6 13 (frOf (dw ⟨#[]⟩ 0 0 0 0 0 none 0 0)) 50, ownL eT 57 2 none 0 []] := hp
  (repeat (first | (with_reducible first | apply WP_seq | apply WP_block | apply WP_region | apply wpl_nil | apply thenQ_n) | (apply wlp; apply pv_assign; exact fI rfl)))
  refine WP_loop3 [8, 9, 10, 20, 21, 22, 23, 24, 25, 26, 27, 28, 29, 30, 31, 32, 33, 34, 35, 36, 37, 38, 39, 40, 41, 42, 43, 44, 45, 46, 47, 48, 49, 50, 51, 52, 53, 54, 55, 56] (fun (i : Nat) (_ : Option Addr) (_ : Nat) F => (F.put 9 (.int .i64 (i : Int))).put 8 (.int .i64 (lft 100 (ts.take i))))
    (fun i s' c' w' => i ≤ ts.length ∧ i ≤ 6 ∧ SVL s' c' (mkT K 100 (ts.take i)) ∧ Hp w [] w' [blk b7 13 (frOf (dw ⟨#[108, 111, 116, 116, 111]⟩ 1 3 5 N K s' (mkT K 100 (ts.take i)).length c')) 50, blk b6 13 (frOf (dw ⟨#[]⟩ 0 0 0 0 0 none 0 0)) 50, ownL eT 57 2 s' c' (mkT K 100 (ts.take i))]) (fun i _ _ => 6 - i) 0 none 0 (put_self (put_self (Same.eq .refl) rfl) rfl) ⟨Nat.zero_le _, by decide, SVL.nil, hp⟩ ?_
  clear hp
  rintro u i s' c' w7 ⟨hi, hi6, hv, hp⟩
  (repeat (first | (with_reducible first | apply WP_seq | apply WP_region | apply wpl_nil | apply thenQ_n) | ((first | apply wlp | (apply wlg; exact rfl; exact rfl)); (intros; ((first | apply pv_move | (apply pf_len; exact rfl) | exact pv_and rfl rfl rfl | apply pv_lss) <;> (first | exact rfl | exact ev_sel rfl (by assumption)))); (intros; (first | exact fI rfl | exact fB rfl | exact fS rfl)))))
  refine WP_cond rfl (fun h => ?_) (fun h => ?_)
  · have hlt : i < ts.length ∧ i < 6 := by simp at h; omega
    obtain ⟨hlt, hlt6⟩ := hlt
    obtain ⟨b0, o0, hs0, hc0⟩ := hs.base (by omega)
    have hci := hc0 i _ (List.getElem?_eq_getElem hlt)
    have htk := List.take_succ_eq_append_getElem hlt
    generalize ts[i] = t at hci htk
    obtain ⟨tm, tp⟩ := t
    have hcm : w.cell? ⟨b0, o0 + i * 2 + 0 * 1, none⟩ = some (.int .i64 tm) := hci 0 _ rfl
    have hcp : w.cell? ⟨b0, o0 + i * 2 + 1 * 1, none⟩ = some (.int .i64 tp) := hci 1 _ rfl
    have hlb := lft_bd (ts.take i) 100 (by decide)
    have hmt := mkT_app K (tm, tp) (ts.take i) 100
    have hlf := lft_app (tm, tp) (ts.take i) 100
    rw [← htk] at hmt hlf
    generalize lft 100 (ts.take i) = L at *
    have hq1 := Int.emod_nonneg tp (show L + 1 ≠ 0 by omega)
    have hq2 := Int.emod_lt_of_pos tp (show 0 < L + 1 by omega)
    have h56p := c56 tp (L + 1)
    have h56m := c56 tm (K + 1)
    have hml : (mkT K 100 (ts.take i)).length ≤ 6 := by rw [mkT_len, List.length_take]; omega
    generalize hpq : tp % (L + 1) = q at *
    generalize hmq : tm % (K + 1) = mm at *
    generalize mkT K 100 (ts.take i) = T at *
    (repeat (first | (with_reducible first | apply WP_seq | apply WP_block | apply WP_region | apply thenQ_n | apply WP_skip) | (apply wlp; ((first | apply pv_move | (apply pf_index; exact rfl) | (apply pf_index_a; exact rfl)) <;> (first | exact rfl | assumption)); (first | exact fI rfl | exact fP rfl | exact fS rfl))))
    (apply wlp; exact pf_index_a (i := 1) rfl rfl rfl (by decide); exact fP rfl)
    (repeat (apply wlp; ((first | apply pv_move | (apply pf_load; exact rfl)) <;> (first | exact rfl | exact hp.old0 (by assumption))); exact fI rfl))
    (apply wlp; exact pv_add rfl rfl; exact int_eq (i64_in (by omega) (by omega)))
    (apply wls; exact st_call rfl ent56 rfl (h56p _ (by omega) (by omega)); rintro _ w8 ⟨rfl, hk⟩; have hp := hp.call hk)
    (repeat (first | (with_reducible first | apply WP_seq | apply WP_region | apply wpl_nil | apply thenQ_n) | (apply wlp; (first | apply pv_move | apply pv_assign); exact fI rfl)))
    (apply wlp; exact pv_sub rfl rfl; exact int_eq (i64_in (by omega) (by omega)))
    (repeat (first | (with_reducible first | apply wpl_nil | apply thenQ_n) | (apply wlp; apply pv_assign; exact fI rfl)))
    refine WP_drawS mixed (by kernel_rfl) (fun w' => Hp w [] w' _) hp.drew ?_
    have hp := hp.drew
    (repeat ((apply wdp; exact rfl); (intro w hp; intros; ((first | apply pv_move | apply pf_field | (apply pf_load; exact rfl) | (apply pf_index; exact rfl) | (apply pf_index_a; exact rfl)) <;> (first | exact rfl | assumption | exact hp.cell 0 rfl rfl))); (intros; (first | exact fI rfl | exact fP rfl | exact fS rfl))))
    (apply wdp; exact rfl; (intro w hp; exact pf_index_a (i := 0) rfl rfl rfl (by decide)); exact fP rfl)
    (repeat ((apply wdp; exact rfl); (intro w hp; intros; ((first | apply pf_field | (apply pf_load; exact rfl)) <;> (first | exact rfl | exact hp.cell 0 rfl rfl | exact hp.old0 (by assumption)))); (intros; (first | exact fI rfl | exact fP rfl))))
    (apply wdp; exact rfl; (intro w hp; exact pv_add rfl rfl); exact int_eq (i64_in (by omega) (by omega)))
    (apply wds; exact rfl; exact st_call rfl ent56 rfl (h56m _ (by omega) (by omega)); rintro _ w9 ⟨rfl, hk⟩; have hp := hp.call hk; refine ⟨hp, ?_⟩)
    (repeat ((apply wdp; exact rfl); (intro w hp; intros; ((first | apply pv_move | (apply pf_build; exact rfl)) <;> exact rfl)); (intros; (first | exact fI rfl | exact fA2 rfl))))
    (apply wds; exact rfl; exact sf_slice hp rfl rfl rfl rfl rfl rfl rfl; rintro _ w10 ⟨nb, rfl, hp⟩; refine ⟨hp.tail, ?_⟩)
    (apply wdsS; exact rfl; exact rfl; exact sf_app1 eT T (mm, q) hp 3 0 rfl rfl rfl rfl rfl rfl (fun _ => rfl) rfl rfl rfl hv rfl rfl (by omega); rintro _ w11 ⟨s2, c2, rfl, hv2, hp⟩)
    (repeat ((apply wdp; exact rfl); (intro w hp; intros; (apply pf_field <;> exact rfl)); (intros; exact fP rfl)))
    (apply wds0S; exact rfl; exact rfl; exact sstore1 hp 1 rfl rfl rfl rfl (sizeTy_ok rfl) rfl; rintro _ w12 ⟨rfl, hp⟩)
    refine wpd_nil ?_
    have hp := hp.norm 1 (dw ⟨#[108, 111, 116, 116, 111]⟩ 1 3 5 N K s2 (T ++ [(mm, q)]).length c2) rfl rfl
    have hp := hp.tail
    have hp : Hp w [] w12 [blk b7 13 (frOf (dw ⟨#[108, 111, 116, 116, 111]⟩ 1 3 5 N K s2 (T ++ [(mm, q)]).length c2)) 50, blk b6 13 (frOf (dw ⟨#[]⟩ 0 0 0 0 0 none 0 0)) 50, ownL eT 57 2 s2 c2 (T ++ [(mm, q)])] := hp
    (repeat (first | (with_reducible first | apply WP_region | apply thenQ_n | apply inBlk_n) | (apply wlp; apply pv_move; exact fI rfl)))
    (apply wlp; exact pv_add rfl rfl; exact int_eq (i64_in (by omega) (by omega)))
    (repeat (first | (with_reducible first | apply wpl_nil | apply thenQ_n) | (apply wlp; apply pv_assign; exact fI rfl)))
    refine ⟨i + 1, s2, c2, put_self (put_self (Same.eq (by repeat (first | exact Same.hav | exact Same.refl | refine Same.put rfl ?_ | refine Same.havs rfl ?_))) rfl) (int_eq ?_), ⟨by omega, by omega, ?_, ?_⟩, by omega⟩
    · rw [hlf]
    · rw [hmt]
      exact hv2
    · rw [hmt]
      exact hp
  · have hte : ts.take i = ts.take 6 := by
      have h2 : i = ts.length ∨ i = 6 := by simp at h; omega
      rcases h2 with rfl | rfl
      · rw [List.take_length, List.take_of_length_le (by omega)]
      · rfl
    rw [hte] at hv hp
    (repeat (first | (with_reducible first | apply WP_seq | apply WP_region | apply thenQ_n | apply thenQ_exit | apply WP_exit) | ((with_reducible apply inBlk_same); exact rfl) | (apply wlp; ((apply pf_loadb; exact rfl) <;> (first | exact rfl | exact hp.agg_blk 0 rfl rfl)); exact fA13 rfl)))
    (apply wls0; exact sstore13 hp 1 rfl rfl rfl rfl (sizeTy_ok rfl) rfl; rintro _ w8 ⟨rfl, hp⟩)
    (repeat (with_reducible first | apply wpl_nil | apply thenQ_n | apply WP_ret))
    refine ret_cell rfl rfl rfl rfl (hp.agg_blk 1 rfl rfl) ⟨_, rfl, s', c', rfl, hv, ?_⟩
    exact hp.picks [2] _ rfl rfl
end Go.Proofs.YteklkjnhefnimaaDoor
/- sortesref01: Canon, Of, Int, small; conditions: the numbers are short. -/
namespace Go.Proofs.YteklkjnhefnimaaDoor
open Go.Eng Go.Dig

theorem canon_digs (x : Nat) : (digs 256 x).reverse.dropWhile (· == 0) = (digs 256 x).reverse := by
  have h := strip_dg (lt_of_len (b := 256) (by decide) (Nat.le_refl (digs 256 x).length))
  have h1 : dg 256 x (digs 256 x).length = digs 256 x := by
    have := dg_of_val (digs_bd (b := 256) (by decide) x)
    rw [digs_val (by decide)] at this
    exact this.symm
  rwa [h1] at h
section
variable {P : Program} {n : Nat} {F : Fr} {w : World} {d : Option Tmp} {ty : TypeId} {pos : String} {aft : Array Edge} {g : Option (Nat × Bool)} {x y : Operand}
theorem pv_max {ts : Array TypeId} {k : IntKind} {a b : Int} (hx : ev n F x = .int k a) (hy : ev n F y = .int k b) : PV P n w F ⟨d, .call ⟨.builtin .max, #[x, y], ts⟩, ty, pos, aft, g⟩ (.int k (max a b)) := by
  have : (if a < b then b else a) = max a b := by rw [Int.max_def]; split <;> split <;> omega
  simp [PV, execOp, resolve, invoke, builtin, Builtin.max_, Builtin.max2, hx, hy, this]
theorem pf_bts0 {t t' : Nat} (ht : slTy t = some (5, 1)) (ht' : strTy t' = true) (hx : ev n F x = .slice none 0 0) : PV Tryd.prog n w F ⟨d, .convert t t' x, ty, pos, aft, g⟩ (.string (bs [])) := by
  have h1 := run_und (P := Tryd.prog) (w := w) (slTy_ok ht).1
  have h2 := run_und (P := Tryd.prog) (w := w) (strTy_ok ht')
  have h3 := run_und (P := Tryd.prog) (w := w) (intTy_ok (t := 5) (k := .u8) rfl)
  simp only [PV, execOp, convert, hx, Sem.run_bind, h1, h2, Result.andThen_ok, h3]
  rfl
end

attribute [local irreducible] PV StepF wpl wpd WP Ret
attribute [local irreducible] Fit RB

theorem c67 (l : List Nat) (w : World) (hb : Bd 256 l) (hl : l.length ≤ 9223372036854775806) : Ret Tryd.prog 67 [.string (bs l)] w (fun v w' => v = .string (bs (l.dropWhile (· == 0))) ∧ Keeps [] w w') := by
  refine Ret.of_WP Tryd.func67 rfl Tryd.ntmps67 rfl ?_
  have hp := Hp.start (M := []) (w := w)
  (repeat (first | (with_reducible first | apply WP_seq | apply WP_block | apply WP_region | apply wpl_nil | apply thenQ_n) | (apply wlp; apply pv_assign; (first | exact fI rfl | exact fT rfl))))
  refine WP_loopS [3, 4, 5, 6, 7, 8, 9, 10, 11, 12, 13, 14, 15] (fun (k : Nat) F => F.put 3 (.int .i64 (k : Int))) (fun k w' => k ≤ l.length ∧ l.dropWhile (· == 0) = (l.drop k).dropWhile (· == 0) ∧ Hp w [] w' []) (fun k => l.length - k) 0 (put_self (Same.eq .refl) rfl) ⟨Nat.zero_le _, by simp, hp⟩ ?_
  clear hp
  rintro u k w1 ⟨hk, he, hp⟩
  (repeat (with_reducible first | apply WP_seq | apply WP_region))
  (apply wlp; exact pv_move; exact fI rfl)
  (apply wlp; exact pv_move; exact fT rfl)
  (apply wlp; exact pf_lenb rfl rfl; exact fI rfl)
  by_cases hlt : k < l.length
  · have hd : l.drop k = l[k] :: l.drop (k + 1) := List.drop_eq_getElem_cons hlt
    (apply wlp; (exact pv_lss rfl rfl); exact bool_eq (b := true) (decide_eq_true (by omega)))
    (apply wlp; apply pv_move; exact fB rfl)
    (apply wlpT; exact rfl; exact rfl; exact pv_move; exact fT rfl)
    (apply wlpT; exact rfl; exact rfl; exact pv_move; exact fI rfl)
    (apply wlpT; exact rfl; exact rfl; exact pf_at rfl rfl rfl hb hlt; exact fI rfl)
    generalize l[k] = y at hd
    (repeat (first | (with_reducible first | apply wpl_nil | apply thenQ_n) | (apply wlp; (intros; ((first | exact pv_andT rfl rfl | (apply pv_eql; (first | exact rfl | exact ev_sel rfl (by assumption)))) <;> exact rfl)); (intros; exact fB rfl)) | ((apply wlpT; exact rfl; exact rfl); (((first | exact pv_andT rfl rfl | (apply pv_eql; (first | exact rfl | exact ev_sel rfl (by assumption)))) <;> exact rfl)); (intros; exact fB rfl)) | (apply wlpF; exact rfl; exact rfl; exact rfl) | (apply wlpU; exact rfl; exact rfl)))
    refine WP_cond_d rfl (fun h => ?_) (fun h => ?_)
    · (repeat (first | (with_reducible first | apply WP_block | apply WP_region | apply thenQ_n | apply WP_skip) | (apply wlp; apply pv_move; exact fI rfl)))
      (apply wlp; exact pv_add rfl rfl; exact int_eq (i64_in (by omega) (by omega)))
      (repeat (first | (with_reducible first | apply wpl_nil | apply thenQ_n | apply inBlk_n) | (apply wlp; apply pv_assign; exact fI rfl)))
      refine ⟨k + 1, put_self (Same.eq (by repeat (first | exact Same.hav | exact Same.refl | refine Same.put rfl ?_ | refine Same.havs rfl ?_))) rfl, ⟨by omega, ?_, hp⟩, by omega⟩
      have h0 : y = 0 := by omega
      rw [he, hd, h0]
      rfl
    · (repeat (first | (with_reducible first | apply WP_seq | apply WP_region | apply thenQ_n | apply thenQ_exit | apply WP_exit) | ((with_reducible apply inBlk_same); exact rfl) | (apply wlp; apply pv_move; (first | exact fI rfl | exact fT rfl))))
      (apply wlp; exact pf_strLo rfl rfl rfl hk; exact fT rfl)
      (repeat (first | (with_reducible first | apply wpl_nil | apply thenQ_n | apply WP_ret) | (apply wlp; apply pv_assign; exact fT rfl)))
      refine ret_tmp rfl rfl ⟨_, rfl, ?_, hp.keeps⟩
      have h0 : y ≠ 0 := by omega
      have h1 : (l.drop k).dropWhile (· == 0) = l.drop k := by rw [hd]; simp [h0]
      rw [he, h1]
      rfl
  · obtain rfl : k = l.length := by omega
    (apply wlp; (exact pv_lss rfl rfl); exact bool_eq (b := false) (decide_eq_false (by omega)))
    (repeat (first | (with_reducible first | apply wpl_nil | apply thenQ_n) | (apply wlp; (intros; (first | apply pv_move | exact pv_andF rfl)); (intros; exact fB rfl)) | (apply wlpF; exact rfl; exact rfl; exact rfl) | (apply wlpU; exact rfl; exact rfl)))
    refine WP_cond_f rfl ?_
    (repeat (first | (with_reducible first | apply WP_seq | apply WP_region | apply thenQ_n | apply thenQ_exit | apply WP_exit) | ((with_reducible apply inBlk_same); exact rfl) | (apply wlp; apply pv_move; (first | exact fI rfl | exact fT rfl))))
    (apply wlp; exact pf_strLo rfl rfl rfl hk; exact fT rfl)
    (repeat (first | (with_reducible first | apply wpl_nil | apply thenQ_n | apply WP_ret) | (apply wlp; apply pv_assign; exact fT rfl)))
    refine ret_tmp rfl rfl ⟨_, rfl, ?_, hp.keeps⟩
    rw [he, List.drop_length]
    rfl
/-- a canonical string stays -/
theorem c67N (x : Nat) (w : World) (h : Fit x) : Ret Tryd.prog 67 [.string (ofN x)] w (fun v w' => v = .string (ofN x) ∧ Keeps [] w w') := by
  have h8 := h.d8
  have := c67 (digs 256 x).reverse w (Bd.rev (digs_bd (by decide) x)) (by rw [List.length_reverse]; omega)
  rw [canon_digs] at this
  exact this
theorem c40 (a : Int) (w : World) (h2 : a ≤ 9223372036854775807) : Ret Tryd.prog 40 [.int .i64 a] w (fun v w' => v = .string (ofN a.toNat) ∧ Keeps [] w w') := by
  refine Ret.of_WP Tryd.func40 rfl Tryd.ntmps40 rfl ?_
  have hp := (Hp.start (M := []) (w := w)).nilL eB 5 1
  (repeat (first | (with_reducible first | apply WP_seq | apply WP_block | apply WP_region | apply wpl_nil | apply thenQ_n) | (apply wlp; apply pv_assign; (first | exact fI rfl | exact fS rfl | exact fT rfl))))
  by_cases h0 : 0 < a
  · obtain ⟨x, rfl⟩ : ∃ x : Nat, a = x := ⟨a.toNat, by omega⟩
    have hx8 : x < 256 ^ 8 := by
      have : (256 : Nat) ^ 8 = 18446744073709551616 := by decide
      omega
    refine WP_loop3 [3, 4, 5, 6, 7, 8, 9, 10, 11, 12, 13, 14, 15, 16, 17, 18, 19] (fun (j : Nat) (s : Option Addr) (c : Nat) F => (F.put 4 (.int .i64 (8 * (j : Int) - 8))).put 3 (.slice s ((dg 256 x 8).drop j).reverse.length c))
      (fun j s c w' => j ≤ 8 ∧ SVL s c ((dg 256 x 8).drop j).reverse ∧ Hp w [] w' [ownL eB 5 1 s c ((dg 256 x 8).drop j).reverse]) (fun j _ _ => j) 8 none 0 (put_self (put_self (Same.eq .refl) rfl) rfl) ⟨Nat.le_refl _, SVL.nil, hp⟩ ?_
    clear hp
    rintro u j s c w1 ⟨hj, hv, hp⟩
    by_cases hj0 : 0 < j
    · obtain ⟨i, rfl⟩ : ∃ i, j = i + 1 := ⟨j - 1, by omega⟩
      have ei : (8 * ((i + 1 : Nat) : Int) - 8) = ((8 * i : Nat) : Int) := by omega
      rw [ei]
      have hlt : i < (dg 256 x 8).length := by rw [dg_len]; omega
      have hgi := dg_get 256 8 x i (by omega)
      have hdr : ((dg 256 x 8).drop i).reverse = ((dg 256 x 8).drop (i + 1)).reverse ++ [x / 256 ^ i % 256] := by
        rw [List.drop_eq_getElem_cons hlt, List.reverse_cons]
        rw [List.getElem?_eq_getElem hlt] at hgi
        simp only [Option.some.injEq] at hgi
        rw [hgi]
      have hll : ((dg 256 x 8).drop (i + 1)).reverse.length ≤ 8 := by rw [List.length_reverse, List.length_drop, dg_len]; omega
      generalize ((dg 256 x 8).drop (i + 1)).reverse = Z at *
      (repeat (with_reducible first | apply WP_seq | apply WP_region))
      (apply wlp; apply pv_move; exact fI rfl)
      (apply wlp; (exact pv_geq rfl rfl); exact bool_eq (b := true) (decide_eq_true (by omega)))
      (apply wlp; apply pv_move; exact fB rfl)
      (apply wlpT; exact rfl; exact rfl; exact pv_move; exact fI rfl)
      (apply wlpT; exact rfl; exact rfl; (exact pv_gtr rfl rfl); exact bool_eq (b := true) (decide_eq_true (by omega)))
      (repeat (first | (with_reducible first | apply wpl_nil | apply thenQ_n) | (apply wlp; (intros; exact pv_andT rfl rfl); (intros; exact fB rfl)) | (apply wlpF; exact rfl; exact rfl; exact rfl) | (apply wlpU; exact rfl; exact rfl)))
      refine WP_cond_t rfl ?_
      (repeat (first | (with_reducible first | apply WP_seq | apply WP_block | apply WP_region | apply thenQ_n | apply WP_skip) | (apply wlp; apply pv_move; (first | exact fI rfl | exact fS rfl))))
      (apply wlp; exact pn_shr (b := 8 * i) rfl rfl (by show 8 * i ≤ 64; omega); exact int_eq (b := ((x / 256 ^ i : Nat) : Int)) (by rw [show (256 : Nat) ^ i = 2 ^ (8 * i) from by rw [Nat.pow_mul]]))
      (apply wlp; exact pn_8of rfl rfl rfl; exact fI rfl)
      (apply wls; exact sf_slice hp rfl rfl rfl rfl rfl rfl rfl; rintro _ w3 ⟨nb, rfl, hp⟩)
      (apply wls; exact sf_app1 eB Z (x / 256 ^ i % 256) hp 1 0 rfl rfl rfl rfl rfl rfl (fun _ => rfl) rfl rfl rfl hv rfl rfl (by omega); rintro _ w4 ⟨s', c', rfl, hv', hp⟩)
      have hp := hp.tail
      have hp : Hp w [] w4 [ownL eB 5 1 s' c' (Z ++ [x / 256 ^ i % 256])] := hp
      rw [← hdr] at hv' hp ⊢
      (repeat (first | (with_reducible first | apply WP_region | apply wpl_nil | apply thenQ_n | apply inBlk_n) | (apply wlp; (first | apply pv_move | apply pv_assign); (first | exact fI rfl | exact fS rfl))))
      (apply wlp; exact pv_sub rfl rfl; exact int_eq (i64_in (by omega) (by omega)))
      (repeat (first | (with_reducible first | apply wpl_nil | apply thenQ_n) | (apply wlp; apply pv_assign; exact fI rfl)))
      exact ⟨i, s', c', put_self (put_self (Same.eq (by repeat (first | exact Same.hav | exact Same.refl | refine Same.put rfl ?_ | refine Same.havs rfl ?_))) (int_eq (by omega))) rfl, ⟨by omega, hv', hp⟩, by omega⟩
    · obtain rfl : j = 0 := by omega
      rw [List.drop_zero] at hv hp ⊢
      have hne : (dg 256 x 8).reverse ≠ [] := by
        intro h
        have := congrArg List.length h
        rw [List.length_reverse, dg_len] at this
        cases this
      obtain ⟨bb, rfl⟩ := hv.addr hne
      have h67 := c67 (dg 256 x 8).reverse
      rw [strip_dg hx8] at h67
      have hbd : Bd 256 (dg 256 x 8).reverse := Bd.rev (dg_bd (by decide) 8 x)
      (repeat (with_reducible first | apply WP_seq | apply WP_region))
      (apply wlp; apply pv_move; exact fI rfl)
      (apply wlp; (exact pv_geq rfl rfl); exact bool_eq (b := false) (decide_eq_false (by omega)))
      (repeat (first | (with_reducible first | apply wpl_nil | apply thenQ_n) | (apply wlp; (intros; (first | apply pv_move | exact pv_andF rfl)); (intros; exact fB rfl)) | (apply wlpF; exact rfl; exact rfl; exact rfl) | (apply wlpU; exact rfl; exact rfl)))
      refine WP_cond_f rfl ?_
      (repeat (first | (with_reducible first | apply WP_seq | apply WP_region | apply thenQ_n | apply thenQ_exit | apply WP_exit) | ((with_reducible apply inBlk_same); exact rfl) | (apply wlp; (first | apply pv_move | apply pf_conv); exact fS rfl)))
      (apply wlp; exact pf_btsL hp rfl rfl rfl rfl rfl hv; exact fT rfl)
      (apply wls; exact st_call rfl ent67 rfl (h67 _ hbd (by rw [List.length_reverse, dg_len]; decide)); rintro _ w2 ⟨rfl, hk⟩; have hp := hp.call hk)
      (repeat (first | (with_reducible first | apply wpl_nil | apply thenQ_n | apply WP_ret) | (apply wlp; apply pv_assign; exact fT rfl)))
      exact ret_tmp rfl rfl ⟨_, rfl, rfl, hp.keeps⟩
  · have hz : a.toNat = 0 := by omega
    rw [hz]
    refine WP_loopS [3, 4, 5, 6, 7, 8, 9, 10, 11, 12, 13, 14, 15, 16, 17, 18, 19] (fun (_ : Nat) F => (F.put 4 (.int .i64 56)).put 3 (.slice none 0 0)) (fun _ w' => Hp w [] w' [ownL eB 5 1 none 0 []]) (fun _ => 0) 0 (put_self (put_self (Same.eq .refl) rfl) rfl) hp ?_
    clear hp
    rintro u _ w1 hp
    (repeat (with_reducible first | apply WP_seq | apply WP_region))
    (apply wlp; apply pv_move; exact fI rfl)
    (apply wlp; (exact pv_geq rfl rfl); exact bool_eq (b := true) (decide_eq_true (by omega)))
    (apply wlp; apply pv_move; exact fB rfl)
    (apply wlpT; exact rfl; exact rfl; exact pv_move; exact fI rfl)
    (apply wlpT; exact rfl; exact rfl; (exact pv_gtr rfl rfl); exact bool_eq (b := false) (decide_eq_false (by omega)))
    (repeat (first | (with_reducible first | apply wpl_nil | apply thenQ_n) | (apply wlp; (intros; exact pv_andT rfl rfl); (intros; exact fB rfl)) | (apply wlpF; exact rfl; exact rfl; exact rfl) | (apply wlpU; exact rfl; exact rfl)))
    refine WP_cond_f rfl ?_
    (repeat (first | (with_reducible first | apply WP_seq | apply WP_region | apply thenQ_n | apply thenQ_exit | apply WP_exit) | ((with_reducible apply inBlk_same); exact rfl) | (apply wlp; (first | apply pv_move | apply pf_conv); exact fS rfl)))
    (apply wlp; exact pf_bts0 rfl rfl rfl; exact fT rfl)
    (apply wls; exact st_call rfl ent67 rfl (c67 [] _ .nil (by simp)); rintro _ w2 ⟨rfl, hk⟩; have hp := hp.call hk)
    (repeat (first | (with_reducible first | apply wpl_nil | apply thenQ_n | apply WP_ret) | (apply wlp; apply pv_assign; exact fT rfl)))
    exact ret_tmp rfl rfl ⟨_, rfl, rfl, hp.keeps⟩
end Go.Proofs.YteklkjnhefnimaaDoor

/- sortesref01: Int, small, Cmp, of, number; conditions: the numbers are short. -/
namespace Go.Proofs.YteklkjnhefnimaaDoor
open Go.Eng Go.Dig

def eD (d : Nat) : List Value := [.int .i64 (d : Int)]
/-- digits to the base 2^24 -/
def d24 (x : Nat) : List Nat := digs 16777216 x
theorem d24_bd (x : Nat) : Bd 16777216 (d24 x) := digs_bd (by decide) x
theorem d24_val (x : Nat) : val 16777216 (d24 x) = x := digs_val (by decide) x
theorem d24_get {x i : Nat} (h : i < (d24 x).length) : (d24 x)[i] = x / 16777216 ^ i % 16777216 := digs_get (by decide) h
theorem d24_beyond {x i : Nat} (h : (d24 x).length ≤ i) : x / 16777216 ^ i % 16777216 = 0 := digs_beyond (by decide) h
theorem d24_lt {x i : Nat} (h : (d24 x).length ≤ i) : x < 16777216 ^ i := lt_of_len (by decide) h
theorem d24_len {x i : Nat} (h : x < 16777216 ^ i) : (d24 x).length ≤ i := len_of_lt (by decide) h
theorem Fit.d24 {x : Nat} (h : Fit x) : (d24 x).length ≤ 100000 := by
  obtain ⟨k, h1, h2⟩ := h
  exact Nat.le_trans (d24_len (Nat.lt_of_lt_of_le h2 (Nat.pow_le_pow_left (by decide) k))) (by omega)
theorem len_eq {b x m : Nat} (hb : 1 < b) (h1 : b ^ m ≤ x) (h2 : x < b ^ (m + 1)) : (digs b x).length = m + 1 := by
  have h3 := len_of_lt hb h2
  rcases Nat.lt_or_ge (digs b x).length (m + 1) with h | h
  · have := lt_of_len hb (show (digs b x).length ≤ m by omega)
    omega
  · omega
theorem pow_len {x : Nat} (h : x ≠ 0) : 256 ^ ((digs 256 x).length - 1) ≤ x := by
  rcases Nat.lt_or_ge x (256 ^ ((digs 256 x).length - 1)) with h1 | h1
  · have h2 := len_of_lt (b := 256) (by decide) h1
    have h3 : (digs 256 x).length ≠ 0 := by
      intro h4
      exact h ((digs_eq_nil (b := 256) (by decide)).1 (List.eq_nil_of_length_eq_zero h4))
    omega
  · exact h1
theorem pow24 (j : Nat) : 16777216 ^ j = 256 ^ (3 * j) := by rw [Nat.pow_mul]
/-- the number of digits to the base 2^24 -/
theorem d24_eq {x m : Nat} (h1 : 3 * m < (digs 256 x).length) (h2 : (digs 256 x).length ≤ 3 * (m + 1)) : (d24 x).length = m + 1 := by
  have hx : x ≠ 0 := by
    rintro rfl
    simp [digs_zero] at h1
  refine len_eq (by decide) ?_ ?_
  · rw [pow24]
    exact Nat.le_trans (Nat.pow_le_pow_right (by decide) (by omega)) (pow_len hx)
  · rw [pow24]
    exact lt_of_len (by decide) h2
theorem mod_next (y t : Nat) : (y / 256 % 256 ^ t) * 256 + y % 256 = y % 256 ^ (t + 1) := by
  rw [Nat.pow_succ, Nat.mul_comm (256 ^ t) 256, Nat.mod_mul]
  omega
theorem rev_at {x i : Nat} (hi : i < (digs 256 x).length) (h : i < (digs 256 x).reverse.length) : (digs 256 x).reverse[i] = x / 256 ^ ((digs 256 x).length - 1 - i) % 256 := by
  have h1 := b8_rev (x := x) (i := (digs 256 x).length - 1 - i) (by omega) (by rw [List.length_reverse]; omega)
  have e : (digs 256 x).length - 1 - ((digs 256 x).length - 1 - i) = i := by omega
  rw [← h1]
  congr 1
  exact e.symm

attribute [local irreducible] PV StepF wpl wpd WP Ret
attribute [local irreducible] Fit RB

theorem c88 (x : Nat) (w : World) (hl : (digs 256 x).length ≤ 7) (hf : Fit x) : Ret Tryd.prog 88 [.string (ofN x)] w (fun v w' => v = .tuple #[.int .i64 (x : Int), .bool true] ∧ Keeps [] w w') := by
  have hx7 : x < 256 ^ 7 := lt_of_len (by decide) hl
  have e7 : (256 : Nat) ^ 7 = 72057594037927936 := by decide
  have hxl := lt_of_len (b := 256) (by decide) (Nat.le_refl (digs 256 x).length)
  have hbd : Bd 256 (digs 256 x).reverse := Bd.rev (digs_bd (by decide) x)
  have hrl : (digs 256 x).reverse.length = (digs 256 x).length := List.length_reverse
  refine Ret.of_WP Tryd.func88 rfl Tryd.ntmps88 rfl ?_
  have hp := Hp.start (M := []) (w := w)
  (repeat (first | (with_reducible first | apply WP_seq | apply WP_region | apply wpl_nil | apply thenQ_n) | (apply wlp; (first | apply pv_move | apply pv_assign); (first | exact fI rfl | exact fB rfl | exact fT rfl))))
  (apply wls; exact st_call rfl ent67 rfl (c67N x _ hf); rintro _ w1 ⟨rfl, hk⟩; have hp := hp.call hk)
  skip
  (apply wlp; apply pv_assign; exact fT rfl)
  (repeat (with_reducible first | apply WP_seq | apply WP_region | apply wpl_nil | apply thenQ_n))
  (apply wlp; apply pv_move; exact fT rfl)
  (apply wlp; exact pf_lenb rfl rfl; exact int_eq (b := ((digs 256 x).length : Int)) (by rw [hrl]))
  (apply wlp; (exact pv_gtr rfl rfl); exact bool_eq (b := false) (decide_eq_false (by omega)))
  (apply wlp; apply pv_move; exact fB rfl)
  (apply wlpT; exact rfl; exact rfl; exact pv_move; exact fT rfl)
  (apply wlpT; exact rfl; exact rfl; exact pf_lenb rfl rfl; exact int_eq (b := ((digs 256 x).length : Int)) (by rw [hrl]))
  (apply wlpT; exact rfl; exact rfl; (exact pv_eql rfl rfl); exact bool_eq (b := false) (decide_eq_false (by omega)))
  (repeat (first | (with_reducible first | apply wpl_nil | apply thenQ_n) | (apply wlp; (intros; (first | apply pv_move | exact pv_andF rfl | exact pv_orF rfl rfl)); (intros; exact fB rfl)) | ((apply wlpT; exact rfl; exact rfl); ((first | apply pv_move | exact pv_andF rfl | exact pv_orF rfl rfl)); (intros; exact fB rfl)) | (apply wlpF; exact rfl; exact rfl; exact rfl) | (apply wlpU; exact rfl; exact rfl)))
  refine WP_cond_f rfl ?_
  (repeat (first | (with_reducible first | apply WP_seq | apply WP_block | apply WP_region | apply wpl_nil | apply thenQ_n | apply WP_skip) | (apply wlp; apply pv_assign; exact fI rfl)))
  refine WP_loopS [4, 5, 21, 22, 23, 24, 25, 26, 27, 28, 29, 30, 31, 32, 33] (fun (k : Nat) F => (F.put 5 (.int .i64 (k : Int))).put 4 (.int .i64 ((x / 256 ^ ((digs 256 x).length - k) : Nat) : Int))) (fun k w' => k ≤ (digs 256 x).length ∧ Hp w [] w' []) (fun k => (digs 256 x).length - k) 0 (put_self (put_self (Same.eq .refl) rfl) (int_eq (by rw [Nat.sub_zero, Nat.div_eq_of_lt hxl]; rfl))) ⟨Nat.zero_le _, hp⟩ ?_
  clear hp
  rintro u k w2 ⟨hk, hp⟩
  (repeat (with_reducible first | apply WP_seq | apply WP_region))
  (apply wlp; apply pv_move; exact fI rfl)
  (apply wlp; apply pv_move; exact fT rfl)
  (apply wlp; exact pf_lenb rfl rfl; exact int_eq (b := ((digs 256 x).length : Int)) (by rw [hrl]))
  (repeat (first | (with_reducible first | apply wpl_nil | apply thenQ_n) | (apply wlp; (apply pv_lss <;> exact rfl); exact fB rfl)))
  refine WP_cond_d rfl (fun h => ?_) (fun h => ?_)
  · have hlt : k < (digs 256 x).length := by omega
    have hlr : k < (digs 256 x).reverse.length := by omega
    have hra := rev_at hlt hlr
    have hlb := hbd.get hlr
    have hst : x / 256 ^ ((digs 256 x).length - (k + 1)) = x / 256 ^ ((digs 256 x).length - k) * 256 + (digs 256 x).reverse[k] := by
      rw [hra, show (digs 256 x).length - 1 - k = (digs 256 x).length - (k + 1) from by omega, show (digs 256 x).length - k = (digs 256 x).length - (k + 1) + 1 from by omega, Nat.pow_succ, ← Nat.div_div_eq_div_mul]
      omega
    have hle : x / 256 ^ ((digs 256 x).length - (k + 1)) ≤ x := Nat.div_le_self _ _
    (repeat (first | (with_reducible first | apply WP_seq | apply WP_block | apply WP_region | apply thenQ_n | apply WP_skip) | (apply wlp; apply pv_move; exact fI rfl)))
    (apply wlp; exact pv_shl (b := 8) rfl rfl (by decide); exact int_eq (b := ((x / 256 ^ ((digs 256 x).length - k) * 256 : Nat) : Int)) (by
      have e8 : min (8 : Int).toNat IntKind.i64.bits = 8 := by decide
      rw [e8, i64_in (by omega) (by omega)]
      omega))
    (apply wlp; apply pv_move; exact fT rfl)
    (apply wlp; apply pv_move; exact fI rfl)
    (apply wlp; exact pf_at rfl rfl rfl hbd hlr; exact fI rfl)
    (apply wlp; exact pf_conv rfl rfl rfl; exact int_eq (b := (((digs 256 x).reverse[k] : Nat) : Int)) (i64_in (by omega) (by omega)))
    (apply wlp; exact pv_add rfl rfl; exact int_eq (b := ((x / 256 ^ ((digs 256 x).length - (k + 1)) : Nat) : Int)) (by rw [i64_in (by omega) (by omega)]; omega))
    (repeat (first | (with_reducible first | apply WP_region | apply wpl_nil | apply thenQ_n | apply inBlk_n) | (apply wlp; (first | apply pv_move | apply pv_assign); exact fI rfl)))
    (apply wlp; exact pv_add rfl rfl; exact int_eq (i64_in (by omega) (by omega)))
    (repeat (first | (with_reducible first | apply wpl_nil | apply thenQ_n) | (apply wlp; apply pv_assign; exact fI rfl)))
    exact ⟨k + 1, put_self (put_self (Same.eq (by repeat (first | exact Same.hav | exact Same.refl | refine Same.put rfl ?_ | refine Same.havs rfl ?_))) rfl) rfl, ⟨by omega, hp⟩, by omega⟩
  · obtain rfl : k = (digs 256 x).length := by omega
    rw [Nat.sub_self, Nat.pow_zero, Nat.div_one]
    (repeat (first | (with_reducible first | apply WP_seq | apply WP_region | apply wpl_nil | apply thenQ_n | apply thenQ_exit | apply WP_ret | apply WP_exit) | ((with_reducible apply inBlk_same); exact rfl) | (apply wlp; (first | apply pv_move | apply pv_assign); (first | exact fI rfl | exact fB rfl))))
    exact ret_tmp2 rfl rfl rfl ⟨_, rfl, rfl, hp.keeps⟩
theorem c68 (x b : Nat) (w : World) (hb : b ≤ 7) (hf : Fit x) : Ret Tryd.prog 68 [.string (ofN x), .int .i64 (b : Int)] w (fun v w' => (∃ q : Bool, q = decide ((digs 256 x).length ≤ b) ∧ v = .tuple #[.int .i64 (if q then (x : Int) else 0), .bool q]) ∧ Keeps [] w w') := by
  have hrl : (digs 256 x).reverse.length = (digs 256 x).length := List.length_reverse
  refine Ret.of_WP Tryd.func68 rfl Tryd.ntmps68 rfl ?_
  have hp := Hp.start (M := []) (w := w)
  (repeat (first | (with_reducible first | apply WP_seq | apply WP_region | apply wpl_nil | apply thenQ_n) | (apply wlp; (first | apply pv_move | apply pv_assign); (first | exact fI rfl | exact fB rfl | exact fT rfl))))
  (apply wls; exact st_call rfl ent67 rfl (c67N x _ hf); rintro _ w1 ⟨rfl, hk⟩; have hp := hp.call hk)
  (apply wlp; exact pf_lenb (l := (digs 256 x).reverse) rfl rfl; exact int_eq (b := ((digs 256 x).length : Int)) (by rw [hrl]))
  (repeat (first | (with_reducible first | apply wpl_nil | apply thenQ_n) | (apply wlp; ((first | apply pv_move | apply pv_gtr) <;> exact rfl); (first | exact fI rfl | exact fB rfl))))
  refine WP_cond_d rfl (fun h => ?_) (fun h => ?_)
  · (repeat (first | (with_reducible first | apply WP_seq | apply WP_region | apply wpl_nil | apply thenQ_n | apply thenQ_ret | apply WP_ret) | (apply wlp; apply pv_assign; (first | exact fI rfl | exact fB rfl))))
    exact ret_tmp2 rfl rfl rfl ⟨_, rfl, ⟨false, (decide_eq_false (by omega)).symm, rfl⟩, hp.keeps⟩
  · (repeat (first | (with_reducible first | apply WP_seq | apply WP_region | apply thenQ_n | apply WP_skip) | (apply wlp; apply pv_move; exact fT rfl)))
    (apply wls; exact st_call rfl ent88 rfl (c88 x _ (by omega) hf); rintro _ w2 ⟨rfl, hk⟩; have hp := hp.call hk)
    (repeat (first | (with_reducible first | apply wpl_nil | apply thenQ_n | apply WP_ret) | (apply wlp; ((first | apply pv_assign | apply pv_extract) <;> exact rfl); (first | exact fI rfl | exact fB rfl))))
    exact ret_tmp2 rfl rfl rfl ⟨_, rfl, ⟨true, (decide_eq_true (by omega)).symm, rfl⟩, hp.keeps⟩
end Go.Proofs.YteklkjnhefnimaaDoor

/- sortesref01: Cmp, of, number; conditions: the numbers are short. -/
namespace Go.Proofs.YteklkjnhefnimaaDoor
open Go.Eng Go.Dig

theorem vb_cons (x : Nat) (l : List Nat) : val 256 (x :: l).reverse = val 256 l.reverse + 256 ^ l.length * x := by
  rw [List.reverse_cons, val_append, List.length_reverse, val_single]
theorem less_bs : ∀ {l m : List Nat}, Bd 256 l → Bd 256 m → l.length = m.length → Op.bytesLess (l.map UInt8.ofNat) (m.map UInt8.ofNat) = decide (val 256 l.reverse < val 256 m.reverse)
  | [], [], _, _, _ => rfl
  | [], y :: m, _, _, h => by simp at h
  | x :: l, [], _, _, h => by simp at h
  | x :: l, y :: m, hl, hm, h => by
    have ih := less_bs hl.tail hm.tail (by simpa using h)
    have hx := hl.head
    have hy := hm.head
    have h1 := val_lt (Bd.rev hl.tail)
    have h2 := val_lt (Bd.rev hm.tail)
    have hlen : l.length = m.length := by simpa using h
    rw [List.length_reverse] at h1 h2
    rw [vb_cons, vb_cons, ← hlen]
    rw [← hlen] at h2
    have ex : (UInt8.ofNat x).toNat = x := by simp; omega
    have ey : (UInt8.ofNat y).toNat = y := by simp; omega
    simp only [List.map_cons, Op.bytesLess]
    generalize 256 ^ l.length = P at *
    rcases Nat.lt_trichotomy x y with hxy | hxy | hxy
    · have h3 : P * (x + 1) ≤ P * y := Nat.mul_le_mul_left P hxy
      rw [Nat.mul_add] at h3
      have h4 : (UInt8.ofNat x) < (UInt8.ofNat y) := by rw [UInt8.lt_iff_toNat_lt, ex, ey]; exact hxy
      have h5 : val 256 l.reverse + P * x < val 256 m.reverse + P * y := by omega
      simp [h4, h5]
    · subst hxy
      have h4 : ¬ (UInt8.ofNat x) < (UInt8.ofNat x) := by rw [UInt8.lt_iff_toNat_lt]; omega
      simp only [h4, ih]
      simp
    · have h3 : P * (y + 1) ≤ P * x := Nat.mul_le_mul_left P hxy
      rw [Nat.mul_add] at h3
      have h4 : (UInt8.ofNat y) < (UInt8.ofNat x) := by rw [UInt8.lt_iff_toNat_lt, ex, ey]; exact hxy
      have h5 : ¬ (UInt8.ofNat x) < (UInt8.ofNat y) := by rw [UInt8.lt_iff_toNat_lt, ex, ey]; omega
      have h6 : (UInt8.ofNat x) ≠ (UInt8.ofNat y) := by
        intro e
        have := congrArg UInt8.toNat e
        rw [ex, ey] at this
        omega
      have h7 : ¬ val 256 l.reverse + P * x < val 256 m.reverse + P * y := by omega
      rw [decide_eq_false h7, decide_eq_false h5, beq_eq_false_iff_ne.2 h6]
      rfl
section
variable {P : Program} {n : Nat} {F : Fr} {w : World} {d : Option Tmp} {ty : TypeId} {pos : String} {aft : Array Edge} {g : Option (Nat × Bool)} {x y : Operand} {t t' : Nat} {a b : ByteArray}
theorem pv_slss (hx : ev n F x = .string a) (hy : ev n F y = .string b) : PV P n w F ⟨d, .binOp .lss t x y t', ty, pos, aft, g⟩ (.bool (Op.bytesLess a.toList b.toList)) := by
  simp [PV, execOp, hx, hy, eqGuard, binOp, Op.stringOp]
theorem pv_sgtr (hx : ev n F x = .string a) (hy : ev n F y = .string b) : PV P n w F ⟨d, .binOp .gtr t x y t', ty, pos, aft, g⟩ (.bool (!(Op.bytesLess a.toList b.toList || decide (a = b)))) := by
  rw [← bytes_beq]
  simp [PV, execOp, hx, hy, eqGuard, binOp, Op.stringOp]
end
theorem less_ofN {x y : Nat} (h : (digs 256 x).length = (digs 256 y).length) : Op.bytesLess (ofN x).toList (ofN y).toList = decide (x < y) := by
  have e : ∀ z, (ofN z).toList = (digs 256 z).reverse.map UInt8.ofNat := by
    intro z
    rw [ByteArray.toList_eq]
    simp [ofN]
  rw [e, e, less_bs (Bd.rev (digs_bd (by decide) x)) (Bd.rev (digs_bd (by decide) y)) (by simpa using h), List.reverse_reverse, List.reverse_reverse, digs_val (by decide), digs_val (by decide)]

attribute [local irreducible] PV StepF wpl wpd WP Ret
attribute [local irreducible] Fit RB

theorem c50 (x y : Nat) (w : World) (hx : Fit x) (hy : Fit y) : Ret Tryd.prog 50 [.string (ofN x), .string (ofN y)] w (fun v w' => v = .int .i64 (if x < y then -1 else if x = y then 0 else 1) ∧ Keeps [] w w') := by
  have hsx := ofN_size x
  have hsy := ofN_size y
  refine Ret.of_WP Tryd.func50 rfl Tryd.ntmps50 rfl ?_
  have hp := Hp.start (M := []) (w := w)
  (repeat (first | (with_reducible first | apply WP_seq | apply WP_region | apply wpl_nil | apply thenQ_n) | (apply wlp; (first | apply pv_move | apply pv_assign); (first | exact fI rfl | exact fT rfl))))
  (apply wls; exact st_call rfl ent67 rfl (c67N x _ hx); rintro _ w1 ⟨rfl, hk⟩; have hp := hp.call hk)
  (repeat (first | (with_reducible first | apply WP_seq | apply WP_region | apply wpl_nil | apply thenQ_n) | (apply wlp; (first | apply pv_move | apply pv_assign); exact fT rfl)))
  (apply wls; exact st_call rfl ent67 rfl (c67N y _ hy); rintro _ w2 ⟨rfl, hk⟩; have hp := hp.call hk)
  (repeat (first | (with_reducible first | apply WP_seq | apply WP_region | apply wpl_nil | apply thenQ_n) | (apply wlp; ((first | apply pv_move | apply pv_assign | (apply pf_lens; exact rfl) | (apply pv_neq; (first | exact rfl | exact ev_sel rfl (by assumption)))) <;> exact rfl); (first | exact fI rfl | exact fB rfl | exact fT rfl))))
  refine WP_cond_nd rfl (fun h => ?_) (fun h => ?_)
  · (repeat (first | (with_reducible first | apply WP_seq | apply WP_region | apply wpl_nil | apply thenQ_n) | (apply wlp; ((first | apply pv_move | (apply pf_lens; exact rfl) | apply pv_lss) <;> exact rfl); (first | exact fI rfl | exact fB rfl | exact fT rfl))))
    refine WP_cond_d rfl (fun h2 => ?_) (fun h2 => ?_)
    · have hlt : x < y := digs_len_lt (b := 256) (by decide) (by omega)
      (repeat (first | (with_reducible first | apply WP_seq | apply WP_region | apply wpl_nil | apply thenQ_n | apply thenQ_ret | apply WP_ret) | (apply wlp; apply pv_assign; exact fI rfl)))
      exact ret_tmp rfl rfl ⟨_, rfl, int_eq (by rw [if_pos hlt]), hp.keeps⟩
    · have hlt : y < x := digs_len_lt (b := 256) (by decide) (by omega)
      (repeat (first | (with_reducible first | apply WP_seq | apply WP_region | apply wpl_nil | apply thenQ_n | apply thenQ_ret | apply WP_ret | apply WP_skip) | (apply wlp; apply pv_assign; exact fI rfl)))
      exact ret_tmp rfl rfl ⟨_, rfl, int_eq (by rw [if_neg (by omega), if_neg (by omega)]), hp.keeps⟩
  · have hl : (digs 256 x).length = (digs 256 y).length := by omega
    have hle := less_ofN hl
    have heq := ofN_eq x y
    (repeat (first | (with_reducible first | apply WP_seq | apply WP_region | apply thenQ_n | apply WP_skip) | (apply wlp; (first | apply pv_move | apply pv_lss); exact fT rfl)))
    (apply wlp; exact pv_slss rfl rfl; exact bool_eq (b := decide (x < y)) hle)
    (repeat (with_reducible first | apply wpl_nil | apply thenQ_n))
    refine WP_cond_d rfl (fun h2 => ?_) (fun h2 => ?_)
    · (repeat (first | (with_reducible first | apply WP_seq | apply WP_region | apply wpl_nil | apply thenQ_n | apply thenQ_ret | apply WP_ret) | (apply wlp; apply pv_assign; exact fI rfl)))
      exact ret_tmp rfl rfl ⟨_, rfl, int_eq (by rw [if_pos h2]), hp.keeps⟩
    · (repeat (first | (with_reducible first | apply WP_seq | apply WP_region | apply thenQ_n | apply WP_skip) | (apply wlp; (first | apply pv_move | apply pv_gtr); exact fT rfl)))
      (apply wlp; exact pv_sgtr rfl rfl; exact bool_eq (b := (!decide (x = y))) (by rw [hle, heq, decide_eq_false h2]; rfl))
      (repeat (with_reducible first | apply wpl_nil | apply thenQ_n))
      refine WP_cond_nd rfl (fun h3 => ?_) (fun h3 => ?_)
      · (repeat (first | (with_reducible first | apply WP_seq | apply WP_region | apply wpl_nil | apply thenQ_n | apply thenQ_ret | apply WP_ret) | (apply wlp; apply pv_assign; exact fI rfl)))
        exact ret_tmp rfl rfl ⟨_, rfl, int_eq (by rw [if_neg h2, if_neg h3]), hp.keeps⟩
      · (repeat (first | (with_reducible first | apply WP_seq | apply WP_region | apply wpl_nil | apply thenQ_n | apply WP_ret | apply WP_skip) | (apply wlp; apply pv_assign; exact fI rfl)))
        exact ret_tmp rfl rfl ⟨_, rfl, int_eq (by rw [if_neg h2, if_pos h3]), hp.keeps⟩
theorem c69 (x : Nat) (w : World) (hx : Fit x) : Ret Tryd.prog 69 [.string (ofN x)] w (fun v w' => ∃ s c, v = .slice s (d24 x).length c ∧ SVL s c (d24 x) ∧ Hp w [] w' [ownL eD 3 1 s c (d24 x)]) := by
  have hL8 := hx.d8
  have hxl := lt_of_len (b := 256) (by decide) (Nat.le_refl (digs 256 x).length)
  have hbd : Bd 256 (digs 256 x).reverse := Bd.rev (digs_bd (by decide) x)
  have hrl : (digs 256 x).reverse.length = (digs 256 x).length := List.length_reverse
  have hra := fun i hi h => rev_at (x := x) (i := i) hi h
  have hdn : ∀ j, 3 * j < (digs 256 x).length + 3 → (digs 256 x).length ≤ 3 * j → dg 16777216 x j = d24 x := by
    intro j h1 h2
    have hlj : (d24 x).length = j := by
      cases j with
      | zero =>
        have : x = 0 := (digs_eq_nil (b := 256) (by decide)).1 (List.eq_nil_of_length_eq_zero (by omega))
        subst this
        rfl
      | succ m => exact d24_eq (by omega) (by omega)
    have := dg_of_val (d24_bd x)
    rw [d24_val, hlj] at this
    exact this.symm
  refine Ret.of_WP Tryd.func69 rfl Tryd.ntmps69 rfl ?_
  have hp := (Hp.start (M := []) (w := w)).nilL eD 3 1
  (repeat (first | (with_reducible first | apply WP_seq | apply WP_region | apply wpl_nil | apply thenQ_n) | (apply wlp; (first | apply pv_move | apply pv_assign); (first | exact fS rfl | exact fT rfl))))
  (apply wls; exact st_call rfl ent67 rfl (c67N x _ hx); rintro _ w1 ⟨rfl, hk⟩; have hp := hp.call hk)
  skip
  (apply wlp; apply pv_assign; exact fT rfl)
  (repeat (with_reducible first | apply WP_seq | apply WP_region | apply wpl_nil | apply thenQ_n))
  (apply wlp; apply pv_assign; exact fS rfl)
  (repeat (with_reducible first | apply WP_seq | apply WP_region | apply wpl_nil | apply thenQ_n))
  (apply wlp; apply pv_move; exact fT rfl)
  (apply wlp; exact pf_lenb (l := (digs 256 x).reverse) rfl rfl; exact int_eq (b := ((digs 256 x).length : Int)) (by rw [hrl]))
  generalize hL : (digs 256 x).length = L at *
  (repeat (first | (with_reducible first | apply WP_block | apply wpl_nil | apply thenQ_n) | (apply wlp; apply pv_assign; exact fI rfl)))
  refine WP_loop3 [3, 4, 5, 6, 11, 12, 13, 14, 15, 16, 17, 18, 19, 20, 21, 22, 23, 24, 25, 26, 27, 28, 29, 30, 31, 32, 33] (fun (j : Nat) (s : Option Addr) (c : Nat) F => (F.put 4 (.int .i64 ((L : Int) - 3 * j))).put 3 (.slice s (dg 16777216 x j).length c))
    (fun j s c w' => 3 * j < L + 3 ∧ SVL s c (dg 16777216 x j) ∧ Hp w [] w' [ownL eD 3 1 s c (dg 16777216 x j)]) (fun j _ _ => L + 3 - 3 * j) 0 none 0 (put_self (put_self (Same.eq .refl) (int_eq (by omega))) rfl) ⟨by omega, SVL.nil, hp⟩ ?_
  clear hp
  rintro u j s c w2 ⟨hj, hv, hp⟩
  (repeat (first | (with_reducible first | apply WP_seq | apply WP_region | apply wpl_nil | apply thenQ_n) | (apply wlp; ((first | apply pv_move | apply pv_gtr) <;> exact rfl); (first | exact fI rfl | exact fB rfl))))
  refine WP_cond_d rfl (fun h => ?_) (fun h => ?_)
  · obtain ⟨e, he⟩ : ∃ e : Nat, e = L - 3 * j := ⟨_, rfl⟩
    have eL : (L : Int) - 3 * (j : Int) = (e : Int) := by omega
    rw [eL]
    have hll : (dg 16777216 x j).length ≤ 100000 := by rw [dg_len]; omega
    (repeat (first | (with_reducible first | apply WP_seq | apply WP_block | apply WP_region | apply wpl_nil | apply thenQ_n | apply WP_skip) | (apply wlp; (first | apply pv_move | apply pv_assign); exact fI rfl)))
    (apply wlp; exact pv_sub rfl rfl; exact int_eq (i64_in (by omega) (by omega)))
    (apply wlp; exact pv_max rfl rfl; exact int_eq (b := ((e - 3 : Nat) : Int)) (by omega))
    (repeat (first | (with_reducible first | apply WP_block | apply wpl_nil | apply thenQ_n) | (apply wlp; apply pv_assign; exact fI rfl)))
    refine WP_loopS [5, 6, 18, 19, 20, 21, 22, 23, 24, 25, 26, 27, 28, 29] (fun (k : Nat) F => (F.put 6 (.int .i64 (k : Int))).put 5 (.int .i64 ((x / 256 ^ (L - k) % 256 ^ (k - (e - 3)) : Nat) : Int))) (fun k w' => e - 3 ≤ k ∧ k ≤ e ∧ Hp w [] w' [ownL eD 3 1 s c (dg 16777216 x j)]) (fun k => e - k) (e - 3) (put_self (put_self (Same.eq .refl) rfl) (int_eq (by rw [Nat.sub_self, Nat.pow_zero, Nat.mod_one]; rfl))) ⟨Nat.le_refl _, by omega, hp⟩ ?_
    clear hp
    rintro u2 k w3 ⟨hk1, hk2, hp⟩
    (repeat (first | (with_reducible first | apply WP_seq | apply WP_region | apply wpl_nil | apply thenQ_n) | (apply wlp; ((first | apply pv_move | apply pv_lss) <;> exact rfl); (first | exact fI rfl | exact fB rfl))))
    refine WP_cond_d rfl (fun h2 => ?_) (fun h2 => ?_)
    · have hkl : k < (digs 256 x).reverse.length := by omega
      have hrk := hra k (by omega) hkl
      have hlb := hbd.get hkl
      have hmn := mod_next (x / 256 ^ (L - 1 - k)) (k - (e - 3))
      rw [Nat.div_div_eq_div_mul, ← Nat.pow_succ, show (L - 1 - k).succ = L - k from by omega, ← hrk, show k - (e - 3) + 1 = k + 1 - (e - 3) from by omega, show L - 1 - k = L - (k + 1) from by omega] at hmn
      have hd1 : x / 256 ^ (L - k) % 256 ^ (k - (e - 3)) < 65536 := by
        refine Nat.lt_of_lt_of_le (Nat.mod_lt _ (Nat.pow_pos (by decide))) ?_
        exact Nat.le_trans (Nat.pow_le_pow_right (by decide) (show k - (e - 3) ≤ 2 by omega)) (by decide)
      generalize x / 256 ^ (L - k) % 256 ^ (k - (e - 3)) = D at *
      (repeat (first | (with_reducible first | apply WP_seq | apply WP_block | apply WP_region | apply thenQ_n | apply WP_skip) | (apply wlp; apply pv_move; exact fI rfl)))
      (apply wlp; (exact pv_mul rfl rfl); exact int_eq (b := ((D * 256 : Nat) : Int)) (by rw [i64_in (by omega) (by omega)]; omega))
      (apply wlp; apply pv_move; exact fT rfl)
      (apply wlp; apply pv_move; exact fI rfl)
      (apply wlp; exact pf_at rfl rfl rfl hbd hkl; exact fI rfl)
      (apply wlp; exact pf_conv rfl rfl rfl; exact int_eq (b := (((digs 256 x).reverse[k] : Nat) : Int)) (i64_in (by omega) (by omega)))
      (apply wlp; exact pv_add rfl rfl; exact int_eq (b := ((x / 256 ^ (L - (k + 1)) % 256 ^ (k + 1 - (e - 3)) : Nat) : Int)) (by rw [i64_in (by omega) (by omega)]; omega))
      (repeat (first | (with_reducible first | apply WP_region | apply wpl_nil | apply thenQ_n | apply inBlk_n) | (apply wlp; (first | apply pv_move | apply pv_assign); exact fI rfl)))
      (apply wlp; exact pv_add rfl rfl; exact int_eq (i64_in (by omega) (by omega)))
      (repeat (first | (with_reducible first | apply wpl_nil | apply thenQ_n) | (apply wlp; apply pv_assign; exact fI rfl)))
      exact ⟨k + 1, put_self (put_self (Same.eq (by repeat (first | exact Same.hav | exact Same.refl | refine Same.put rfl ?_ | refine Same.havs rfl ?_))) rfl) rfl, ⟨by omega, by omega, hp⟩, by omega⟩
    · obtain rfl : k = e := by omega
      have hdig : x / 256 ^ (L - k) % 256 ^ (k - (k - 3)) = x / 16777216 ^ j % 16777216 := by
        rw [pow24, show L - k = 3 * j from by omega]
        by_cases h3 : 3 ≤ k
        · rw [show k - (k - 3) = 3 from by omega]
        · have h4 : x / 256 ^ (3 * j) < 256 ^ k := by
            rw [Nat.div_lt_iff_lt_mul (Nat.pow_pos (by decide)), ← Nat.pow_add, show k + 3 * j = L from by omega]
            exact hxl
          have h5 : x / 256 ^ (3 * j) < 16777216 := Nat.lt_of_lt_of_le h4 (Nat.le_trans (Nat.pow_le_pow_right (by decide) (show k ≤ 3 by omega)) (by decide))
          rw [show k - (k - 3) = k from by omega, Nat.mod_eq_of_lt h4, Nat.mod_eq_of_lt h5]
      rw [hdig]
      have hsn := dg_snoc 16777216 j x
      (repeat (first | (with_reducible first | apply WP_region | apply thenQ_n | apply thenQ_exit | apply WP_exit) | ((with_reducible apply inBlk_same); exact rfl) | (apply wlp; apply pv_move; (first | exact fI rfl | exact fS rfl))))
      (apply wls; exact sf_slice hp rfl rfl rfl rfl rfl rfl rfl; rintro _ w4 ⟨nb, rfl, hp⟩)
      (apply wls; exact sf_app1 eD (dg 16777216 x j) (x / 16777216 ^ j % 16777216) hp 1 0 rfl rfl rfl rfl rfl rfl (fun _ => rfl) rfl rfl rfl hv rfl rfl (by omega); rintro _ w5 ⟨s', c', rfl, hv', hp⟩)
      have hp := hp.tail
      have hp : Hp w [] w5 [ownL eD 3 1 s' c' (dg 16777216 x j ++ [x / 16777216 ^ j % 16777216])] := hp
      rw [← hsn] at hv' hp ⊢
      (repeat (first | (with_reducible first | apply WP_region | apply wpl_nil | apply thenQ_n | apply inBlk_n) | (apply wlp; (first | apply pv_move | apply pv_assign); (first | exact fI rfl | exact fS rfl))))
      (apply wlp; exact pv_sub rfl rfl; exact int_eq (i64_in (by omega) (by omega)))
      (repeat (first | (with_reducible first | apply wpl_nil | apply thenQ_n) | (apply wlp; apply pv_assign; exact fI rfl)))
      exact ⟨j + 1, s', c', put_self (put_self (Same.eq (by repeat (first | exact Same.hav | exact Same.refl | refine Same.put rfl ?_ | refine Same.havs rfl ?_))) (int_eq (by omega))) rfl, ⟨by omega, hv', hp⟩, by omega⟩
  · rw [hdn j hj (by omega)] at hv hp ⊢
    (repeat (first | (with_reducible first | apply WP_seq | apply WP_region | apply wpl_nil | apply thenQ_n | apply thenQ_exit | apply WP_ret | apply WP_exit) | ((with_reducible apply inBlk_same); exact rfl) | (apply wlp; (first | apply pv_move | apply pv_assign); exact fS rfl)))
    exact ret_tmp rfl rfl ⟨_, rfl, s, c, rfl, hv, hp⟩
theorem num_step {V k : Nat} {l : List Nat} (hb : Bd 16777216 l) (hV : V = val 16777216 l) (hk : k < l.length) : ((dg 256 V (3 * l.length)).drop (3 * k)).reverse = ((dg 256 V (3 * l.length)).drop (3 * (k + 1))).reverse ++ [l[k] / 65536 % 256, l[k] / 256 % 256, l[k] % 256] := by
  have hl : (dg 256 V (3 * l.length)).length = 3 * l.length := dg_len _ _ _
  have hg := l_get hb hk
  rw [← hV, pow24] at hg
  have g : ∀ i, i < 3 → ∀ (h : 3 * k + i < (dg 256 V (3 * l.length)).length), (dg 256 V (3 * l.length))[3 * k + i] = l[k] / 256 ^ i % 256 := by
    intro i hi h
    have h1 := dg_get 256 (3 * l.length) V (3 * k + i) (by omega)
    rw [List.getElem?_eq_getElem h] at h1
    simp only [Option.some.injEq] at h1
    rw [h1, hg, Nat.pow_add, ← Nat.div_div_eq_div_mul]
    generalize V / 256 ^ (3 * k) = y
    have : i = 0 ∨ i = 1 ∨ i = 2 := by omega
    rcases this with rfl | rfl | rfl
    · simp only [Nat.pow_zero, Nat.div_one]; omega
    · simp only [Nat.pow_one]; omega
    · rw [show (256 : Nat) ^ 2 = 65536 from by decide]; omega
  have h0 : 3 * k + 0 < (dg 256 V (3 * l.length)).length := by omega
  have h1 : 3 * k + 1 < (dg 256 V (3 * l.length)).length := by omega
  have h2 : 3 * k + 2 < (dg 256 V (3 * l.length)).length := by omega
  have e0 := g 0 (by decide) h0
  have e1 := g 1 (by decide) h1
  have e2 := g 2 (by decide) h2
  rw [Nat.pow_zero, Nat.div_one] at e0
  rw [Nat.pow_one] at e1
  rw [show (256 : Nat) ^ 2 = 65536 from by decide] at e2
  have d0 := List.drop_eq_getElem_cons h0
  have d1 := List.drop_eq_getElem_cons h1
  have d2 := List.drop_eq_getElem_cons h2
  rw [e0] at d0
  rw [e1] at d1
  rw [e2] at d2
  rw [show 3 * k = 3 * k + 0 from rfl, d0, show 3 * k + 0 + 1 = 3 * k + 1 from rfl, d1, show 3 * k + 1 + 1 = 3 * k + 2 from rfl, d2, show 3 * k + 2 + 1 = 3 * (k + 1) from by omega]
  simp
theorem c70 (l : List Nat) (s : Option Addr) (c : Nat) (w : World) (hs : SlAt w 1 eD s l) (hb : Bd 16777216 l) (hl : l.length ≤ 100000) : Ret Tryd.prog 70 [.slice s l.length c] w (fun v w' => v = .string (ofN (val 16777216 l)) ∧ Keeps [] w w') := by
  obtain ⟨V, hV⟩ : ∃ V, V = val 16777216 l := ⟨_, rfl⟩
  have hVl : V < 256 ^ (3 * l.length) := by rw [hV, ← pow24]; exact val_lt hb
  rw [← hV]
  have hdl := dg_len 256 (3 * l.length) V
  have h67 := c67 (dg 256 V (3 * l.length)).reverse
  rw [strip_dg hVl] at h67
  have hbd : Bd 256 (dg 256 V (3 * l.length)).reverse := Bd.rev (dg_bd (by decide) _ V)
  refine Ret.of_WP Tryd.func70 rfl Tryd.ntmps70 rfl ?_
  have hp := (Hp.start (M := []) (w := w)).nilL eB 5 1
  (repeat (first | (with_reducible first | apply WP_seq | apply WP_region | apply wpl_nil | apply thenQ_n) | (apply wlp; ((first | apply pv_move | apply pv_assign | (apply pf_len; exact rfl)) <;> exact rfl); (first | exact fI rfl | exact fS rfl | exact fT rfl))))
  (apply wlp; exact pv_sub rfl rfl; exact int_eq (i64_in (by omega) (by omega)))
  (repeat (first | (with_reducible first | apply WP_block | apply wpl_nil | apply thenQ_n) | (apply wlp; apply pv_assign; exact fI rfl)))
  refine WP_loop3 [3, 4, 8, 9, 10, 11, 12, 13, 14, 15, 16, 17, 18, 19, 20, 21, 22, 23, 24, 25, 26, 27, 28, 29, 30, 31] (fun (k : Nat) (s : Option Addr) (c : Nat) F => (F.put 4 (.int .i64 ((k : Int) - 1))).put 3 (.slice s ((dg 256 V (3 * l.length)).drop (3 * k)).reverse.length c))
    (fun k s c w' => k ≤ l.length ∧ SVL s c ((dg 256 V (3 * l.length)).drop (3 * k)).reverse ∧ Hp w [] w' [ownL eB 5 1 s c ((dg 256 V (3 * l.length)).drop (3 * k)).reverse]) (fun k _ _ => k) l.length none 0 (put_self (put_self (Same.eq .refl) rfl) (by rw [List.drop_of_length_le (by omega)]; rfl)) ⟨Nat.le_refl _, by rw [List.drop_of_length_le (by omega)]; exact SVL.nil, by rw [List.drop_of_length_le (by omega)]; exact hp⟩ ?_
  clear hp
  rintro u k s2 c2 w1 ⟨hk, hv, hp⟩
  (repeat (first | (with_reducible first | apply WP_seq | apply WP_region | apply wpl_nil | apply thenQ_n) | (apply wlp; ((first | apply pv_move | apply pv_geq) <;> exact rfl); (first | exact fI rfl | exact fB rfl))))
  refine WP_cond_d rfl (fun h => ?_) (fun h => ?_)
  · obtain ⟨j, rfl⟩ : ∃ j, k = j + 1 := ⟨k - 1, by omega⟩
    have hlt : j < l.length := by omega
    have hst := num_step hb hV hlt
    obtain ⟨b0, o0, hs0, hc0⟩ := hs.base (by omega)
    have hci := hc0 j _ (List.getElem?_eq_getElem hlt) 0 _ rfl
    have hdb := hb.get hlt
    have ej : ((j + 1 : Nat) : Int) - 1 = (j : Int) := by omega
    rw [ej]
    generalize l[j] = D at *
    have hci : w.cell? ⟨b0, o0 + j * 1, none⟩ = some (.int .i64 (D : Int)) := hci
    have hll : ((dg 256 V (3 * l.length)).drop (3 * (j + 1))).reverse.length ≤ 300000 := by rw [List.length_reverse, List.length_drop]; omega
    generalize ((dg 256 V (3 * l.length)).drop (3 * (j + 1))).reverse = Z at *
    (repeat (with_reducible first | apply WP_seq | apply WP_block | apply thenQ_n | apply WP_skip))
    refine WP_drawS mixed (by kernel_rfl) (fun w' => Hp w [] w' _) hp.drew ?_
    have hp := hp.drew
    (repeat ((apply wdp; exact rfl); (intro w hp; intros; ((first | apply pv_move | (apply pf_load; exact rfl) | (apply pf_index; exact rfl)) <;> (first | exact rfl | assumption | exact hp.old0 (by assumption)))); (intros; (first | exact fI rfl | exact fP rfl | exact fS rfl))))
    (apply wdp; exact rfl; (intro w hp; exact pn_shr (b := 16) rfl rfl (by decide)); exact int_eq (b := ((D / 65536 : Nat) : Int)) rfl)
    (apply wdp; exact rfl; (intro w hp; exact pn_8of rfl rfl rfl); exact fI rfl)
    (repeat ((apply wdp; exact rfl); (intro w hp; intros; ((first | apply pv_move | (apply pf_load; exact rfl) | (apply pf_index; exact rfl)) <;> (first | exact rfl | assumption | exact hp.old0 (by assumption)))); (intros; (first | exact fI rfl | exact fP rfl | exact fS rfl))))
    (apply wdp; exact rfl; (intro w hp; exact pn_shr (b := 8) rfl rfl (by decide)); exact int_eq (b := ((D / 256 : Nat) : Int)) rfl)
    (apply wdp; exact rfl; (intro w hp; exact pn_8of rfl rfl rfl); exact fI rfl)
    (apply wdp; exact rfl; (intro w hp; exact pv_move); exact fS rfl)
    (apply wdp; exact rfl; (intro w hp; exact pv_move); exact fI rfl)
    (apply wdp; exact rfl; (intro w hp; exact pf_index rfl rfl rfl hs0 hlt); exact fP rfl)
    (apply wdp; exact rfl; (intro w hp; exact pf_load rfl rfl (hp.old0 hci)); exact fI rfl)
    (apply wdp; exact rfl; (intro w hp; exact pn_8of rfl rfl rfl); exact fI rfl)
    (apply wds; exact rfl; exact sf_slice hp rfl rfl rfl rfl rfl rfl rfl; rintro _ w2 ⟨nb, rfl, hp⟩; refine ⟨hp.tail, ?_⟩)
    have hsn : SlAt w2 1 eB (some ⟨nb, 0, none⟩) [D / 65536 % 256, D / 256 % 256, D % 256] := blk_SlAt [D / 65536 % 256, D / 256 % 256, D % 256] hp 0 rfl (fun _ => rfl)
    (apply wdsS; exact rfl; exact rfl; exact sf_app eB Z [D / 65536 % 256, D / 256 % 256, D % 256] hp 1 rfl rfl rfl rfl rfl rfl (fun _ => rfl) rfl rfl rfl hv hsn (fun _ => rfl) (by show Z.length + 3 < 1000000; omega); rintro _ w3 ⟨s', c', rfl, hv', hp⟩)
    (repeat ((apply wdp; exact rfl); (intro w hp; intros; apply pv_assign); (intros; exact fS rfl)))
    refine wpd_nil ?_
    have hp := hp.tail
    have hp : Hp w [] w3 [ownL eB 5 1 s' c' (Z ++ [D / 65536 % 256, D / 256 % 256, D % 256])] := hp
    rw [← hst] at hv' hp ⊢
    (repeat (first | (with_reducible first | apply WP_region | apply thenQ_n | apply inBlk_n) | (apply wlp; apply pv_move; exact fI rfl)))
    (apply wlp; exact pv_sub rfl rfl; exact int_eq (i64_in (by omega) (by omega)))
    (repeat (first | (with_reducible first | apply wpl_nil | apply thenQ_n) | (apply wlp; apply pv_assign; exact fI rfl)))
    exact ⟨j, s', c', put_self (put_self (Same.eq (by repeat (first | exact Same.hav | exact Same.refl | refine Same.put rfl ?_ | refine Same.havs rfl ?_))) rfl) rfl, ⟨by omega, hv', hp⟩, by omega⟩
  · obtain rfl : k = 0 := by omega
    rw [Nat.mul_zero, List.drop_zero] at hv hp ⊢
    by_cases hl0 : l.length = 0
    · have hn : (dg 256 V (3 * l.length)).reverse = [] := List.eq_nil_of_length_eq_zero (by rw [List.length_reverse]; omega)
      rw [hn] at h67 hv hp ⊢
      rcases hv with ⟨e1, _⟩ | ⟨g, cap, e1, _⟩
      · injection e1 with e2 _ e3
        subst e2 e3
        (repeat (first | (with_reducible first | apply WP_seq | apply WP_region | apply thenQ_n | apply thenQ_exit | apply WP_exit) | ((with_reducible apply inBlk_same); exact rfl) | (apply wlp; (first | apply pv_move | apply pf_conv); exact fS rfl)))
        (apply wlp; exact pf_bts0 rfl rfl rfl; exact fT rfl)
        (apply wls; exact st_call rfl ent67 rfl (h67 _ .nil (by simp)); rintro _ w2 ⟨rfl, hk⟩; have hp := hp.call hk)
        (repeat (first | (with_reducible first | apply wpl_nil | apply thenQ_n | apply WP_ret) | (apply wlp; apply pv_assign; exact fT rfl)))
        exact ret_tmp rfl rfl ⟨_, rfl, rfl, hp.keeps⟩
      · injection e1 with e2 _ e3
        subst e2
        (repeat (first | (with_reducible first | apply WP_seq | apply WP_region | apply thenQ_n | apply thenQ_exit | apply WP_exit) | ((with_reducible apply inBlk_same); exact rfl) | (apply wlp; (first | apply pv_move | apply pf_conv); exact fS rfl)))
        (apply wlp; exact pf_btsL hp rfl rfl rfl rfl rfl (.inr ⟨g, cap, by rw [e3], by assumption⟩); exact fT rfl)
        (apply wls; exact st_call rfl ent67 rfl (h67 _ .nil (by simp)); rintro _ w2 ⟨rfl, hk⟩; have hp := hp.call hk)
        (repeat (first | (with_reducible first | apply wpl_nil | apply thenQ_n | apply WP_ret) | (apply wlp; apply pv_assign; exact fT rfl)))
        exact ret_tmp rfl rfl ⟨_, rfl, rfl, hp.keeps⟩
    · have hne : (dg 256 V (3 * l.length)).reverse ≠ [] := by
        intro h
        have := congrArg List.length h
        rw [List.length_reverse, hdl] at this
        simp at this
        omega
      obtain ⟨bb, rfl⟩ := hv.addr hne
      (repeat (first | (with_reducible first | apply WP_seq | apply WP_region | apply thenQ_n | apply thenQ_exit | apply WP_exit) | ((with_reducible apply inBlk_same); exact rfl) | (apply wlp; (first | apply pv_move | apply pf_conv); exact fS rfl)))
      (apply wlp; exact pf_btsL hp rfl rfl rfl rfl rfl hv; exact fT rfl)
      (apply wls; exact st_call rfl ent67 rfl (h67 _ hbd (by rw [List.length_reverse, hdl]; omega)); rintro _ w2 ⟨rfl, hk⟩; have hp := hp.call hk)
      (repeat (first | (with_reducible first | apply wpl_nil | apply thenQ_n | apply WP_ret) | (apply wlp; apply pv_assign; exact fT rfl)))
      exact ret_tmp rfl rfl ⟨_, rfl, rfl, hp.keeps⟩
end Go.Proofs.YteklkjnhefnimaaDoor
