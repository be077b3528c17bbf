/- Merged texts of ours: Ra Rb Rc Rd Re Pd Sb S0 P0 Za Qa Ta Tb Qb; conditions are the hypotheses of each law. -/
import Derived.Test.YtfjbioghpgmkiaaGreatDoorQ3
import Derived.KernelRfl
import Derived.Test.YtfjbioghpgmkiaaGreatDoorTie
import Derived.Test.YtfjbioghpgmkiaaGreatDoorCards
import Derived.WalkKit
import Derived.ProofKit
import Derived.OpenShut
import Derived.Carry
import Derived.Deep.Slices
import Derived.SizedLaws
import Derived.LaidLaws
import Derived.LaidHandle
import Derived.ChangeVars
import Derived.JoinedOf
import Derived.RowKit
/- sortesref01: Gcd, Right; sortesref02: lowest, Right, value, Of, Quo, Add, Equal; equality of rationals; conditions: numbers that are not negative, short. -/
namespace Go.Proofs.YtfjbioghpgmkiaaGreatDoor
open Go.Eng Go.Dig

theorem eqIn_str {P : Program} {w : World} {t : Nat} {a b : ByteArray} (ht : P.underlying t = some .string) (k : Nat) : (Op.equalIn (k + 1) t (.string a) (.string b)).run P w = .ok (decide (a = b)) w := by
  unfold Op.equalIn
  simp [run_und ht]
  exact beq_bytes a b
theorem partAt {t : Nat} {w : World} (hag : (isAgg t).run Tryz.prog w = .ok false w) (xs : Array Value) (o : Nat) (v : Value) (h : xs[o]? = some v) : (part t xs o).run Tryz.prog w = .ok v w := by
  simp [part, hag, h]
theorem eq55 (a a' : Bool) (b b' c c' : ByteArray) (w : World) : (Op.equal 55 (.agg #[.bool a, .string b, .string c]) (.agg #[.bool a', .string b', .string c'])).run Tryz.prog w = .ok ((a == a') && (decide (b = b') && decide (c = c'))) w := by
  show (Op.equalIn (9998 + 1 + 1) 55 _ _).run Tryz.prog w = _
  have hs : (Program.stoodInHeld Tryz.prog 55) = false := by kernel_rfl
  have h4 := fun (x y : Bool) => eqIn_bool (P := Tryz.prog) (w := w) (a := x) (b := y) Tryz.underlying4 9998
  have h23 := fun (x y : ByteArray) => eqIn_str (P := Tryz.prog) (w := w) (a := x) (b := y) Tryz.underlying53 9998
  have g4 : (isAgg 4).run Tryz.prog w = .ok false w := by kernel_rfl
  have g23 : (isAgg 53).run Tryz.prog w = .ok false w := by kernel_rfl
  have p0 := fun (x : Bool) (y z : ByteArray) => partAt g4 #[.bool x, .string y, .string z] 0 _ rfl
  have p1 := fun (x : Bool) (y z : ByteArray) => partAt g23 #[.bool x, .string y, .string z] 1 _ rfl
  have p2 := fun (x : Bool) (y z : ByteArray) => partAt g23 #[.bool x, .string y, .string z] 2 _ rfl
  simp only [Nat.reduceAdd] at h4 h23
  rw [Op.equalIn]
  simp only [Sem.run_bind, run_und Tryz.underlying55, Result.andThen_ok]
  simp [hs, Sem.run_bind, p0, p1, p2, h4, h23]
  cases a <;> cases a' <;> by_cases hb : b = b' <;> by_cases hc : c = c' <;> simp [hb, hc]
theorem pv_eq55 {n : FrK} {w : World} {F : Fr} {d : Option Tmp} {ty : TypeId} {pos : String} {aft : Array Edge} {g : Option (Nat × Bool)} {x y : Operand} {t' : Nat} {a a' : Bool} {b b' c c' : ByteArray}
    (hx : ev n F x = .agg #[.bool a, .string b, .string c]) (hy : ev n F y = .agg #[.bool a', .string b', .string c']) : PV Tryz.prog n w F ⟨d, .binOp .eql 55 x y t', ty, pos, aft, g⟩ (.bool ((a == a') && (decide (b = b') && decide (c = c')))) := by
  have h := eq55 a a' b b' c c' w
  have hg : Program.eqGuardType Tryz.prog Tryz.prog.depth 55 = false := by kernel_rfl
  simp [PV, execOp, hx, hy, eqGuard, hg, binOp, h]
theorem pv_ne55 {n : FrK} {w : World} {F : Fr} {d : Option Tmp} {ty : TypeId} {pos : String} {aft : Array Edge} {g : Option (Nat × Bool)} {x y : Operand} {t' : Nat} {a a' : Bool} {b b' c c' : ByteArray}
    (hx : ev n F x = .agg #[.bool a, .string b, .string c]) (hy : ev n F y = .agg #[.bool a', .string b', .string c']) : PV Tryz.prog n w F ⟨d, .binOp .neq 55 x y t', ty, pos, aft, g⟩ (.bool (!((a == a') && (decide (b = b') && decide (c = c'))))) := by
  have h := eq55 a a' b b' c c' w
  have hg : Program.eqGuardType Tryz.prog Tryz.prog.depth 55 = false := by kernel_rfl
  simp [PV, execOp, hx, hy, eqGuard, hg, binOp, h]
theorem pv_beql {P : Program} {n : FrK} {F : Fr} {w : World} {d : Option Tmp} {ty : TypeId} {pos : String} {aft : Array Edge} {g : Option (Nat × Bool)} {x y : Operand} {t t' : Nat} {a b : Bool} (ht : P.underlying t = some .bool) (hx : ev n F x = .bool a) (hy : ev n F y = .bool b) : PV P n w F ⟨d, .binOp .eql t x y t', ty, pos, aft, g⟩ (.bool (a == b)) := by
  have h := eq_bool (P := P) (w := w) (a := a) (b := b) ht
  simp [PV, execOp, hx, hy, eqGuard, binOp, h]

attribute [local irreducible] PV StepF wpl wpd WP Ret
attribute [local irreducible] Fit ofN

theorem c85 (x : Nat) (w : World) : Ret Tryz.prog 95 [.string (ofN x)] w (fun v w' => v = .bool true ∧ Keeps [] w w') := by
  have hsz := ofN_size x
  refine Ret.of_WP Tryz.func95 rfl Tryz.ntmps95 rfl ?_
  have hp := Hp.start (M := []) (w := w)
  (repeat (with_reducible first | apply WP_seq | apply WP_region))
  (apply wlp; apply pv_assign; exact fB rfl)
  (repeat (with_reducible first | apply WP_seq | apply WP_region | apply wpl_nil | apply thenQ_n))
  (apply wlp; apply pv_move; exact fT rfl)
  (apply wlp; ((apply pf_lens; exact rfl) <;> exact rfl); exact fI rfl)
  by_cases h0 : x = 0
  · have h1 : (ofN x).size = 0 := by rw [hsz, h0]; rfl
    (apply wlp; exact pv_eql rfl rfl; exact bool_eq (b := true) (decide_eq_true (by omega)))
    (repeat (first | (with_reducible first | apply wpl_nil | apply thenQ_n | apply WP_ret) | (apply wlp; (intros; (first | apply pv_move | apply pv_assign | exact pv_orT rfl)); (intros; exact fB rfl)) | (apply wlpF; exact rfl; exact rfl; exact rfl) | (apply wlpU; exact rfl; exact rfl)))
    exact ret_tmp rfl rfl ⟨_, rfl, rfl, hp.keeps⟩
  · obtain ⟨h1, hb⟩ := ofN_top h0
    (apply wlp; exact pv_eql rfl rfl; exact bool_eq (b := false) (decide_eq_false (by omega)))
    (apply wlp; apply pv_move; exact fB rfl)
    ((apply wlpT; exact rfl; exact rfl); (apply pv_move); (intros; exact fT rfl))
    (apply wlpT; exact rfl; exact rfl; exact pf_index_s (i := 0) rfl rfl rfl h1; exact fI rfl)
    (apply wlpT; exact rfl; exact rfl; exact pv_neq rfl rfl; exact bool_eq (b := true) (ndt hb))
    (repeat (first | (with_reducible first | apply wpl_nil | apply thenQ_n | apply WP_ret) | (apply wlp; (intros; (first | apply pv_assign | exact pv_orF rfl rfl)); (intros; exact fB rfl)) | (apply wlpF; exact rfl; exact rfl; exact rfl) | (apply wlpU; exact rfl; exact rfl)))
    exact ret_tmp rfl rfl ⟨_, rfl, rfl, hp.keeps⟩
theorem c91 (x y : Nat) (w : World) (hx : Fit x) (hy : Fit y) : Ret Tryz.prog 78 [.string (ofN x), .string (ofN y)] w (fun v w' => v = .string (ofN (Nat.gcd x y)) ∧ Keeps [] w w') := by
  refine Ret.of_WP Tryz.func78 rfl Tryz.ntmps78 rfl ?_
  have hp := Hp.start (M := []) (w := w)
  (repeat (first | (with_reducible first | apply WP_seq | apply WP_region | apply wpl_nil | apply thenQ_n) | (apply wlp; (first | apply pv_move | apply pv_assign); exact fT rfl)))
  (apply wls; exact st_call rfl ent57 rfl (c67N x _ hx); rintro _ w1 ⟨rfl, hk⟩; have hp := hp.call hk)
  (repeat (first | (with_reducible first | apply WP_seq | apply WP_region | apply wpl_nil | apply thenQ_n) | (apply wlp; (first | apply pv_move | apply pv_assign); exact fT rfl)))
  (apply wls; exact st_call rfl ent57 rfl (c67N y _ hy); rintro _ w2 ⟨rfl, hk⟩; have hp := hp.call hk)
  (repeat (first | (with_reducible first | apply WP_seq | apply WP_block | apply wpl_nil | apply thenQ_n) | (apply wlp; apply pv_assign; exact fT rfl)))
  refine WP_loop2 [0, 1, 5, 6, 7, 12, 13, 14, 15, 16, 17, 18, 19, 20, 21, 22, 23] (fun (a b : Nat) F => (F.put 0 (.string (ofN a))).put 1 (.string (ofN b))) (fun a b w' => Fit a ∧ Fit b ∧ Nat.gcd a b = Nat.gcd x y ∧ Hp w [] w' []) (fun _ b => b) x y (put_self (put_self (Same.eq .refl) rfl) rfl) ⟨hx, hy, rfl, hp⟩ ?_
  clear hp
  rintro u a b w3 ⟨ha, hb, hg, hp⟩
  have hsz := ofN_size b
  (repeat (first | (with_reducible first | apply WP_seq | apply WP_region | apply wpl_nil | apply thenQ_n) | (apply wlp; ((first | apply pv_move | (apply pf_lens; exact rfl) | apply pv_gtr) <;> exact rfl); (first | exact fI rfl | exact fB rfl | exact fT rfl))))
  refine WP_cond_d rfl (fun h => ?_) (fun h => ?_)
  · have hb0 : 0 < b := by
      rcases Nat.eq_zero_or_pos b with h0 | h0
      · subst h0
        rw [hsz, digs_zero] at h
        simp at h
      · exact h0
    have hlt := Nat.mod_lt a hb0
    (repeat (first | (with_reducible first | apply WP_seq | apply WP_block | apply WP_region | apply thenQ_n | apply WP_skip) | (apply wlp; apply pv_move; exact fT rfl)))
    (apply wls; exact st_call rfl ent28 rfl (c92 a b _ ha hb hb0); rintro _ w4 ⟨rfl, hk⟩; have hp := hp.call hk)
    (repeat (first | (with_reducible first | apply WP_seq | apply WP_region | apply wpl_nil | apply thenQ_n | apply inBlk_n) | (apply wlp; ((first | apply pv_move | apply pv_assign | apply pv_extract) <;> exact rfl); (first | exact fB rfl | exact fT rfl | exact fU rfl))))
    exact ⟨b, a % b, put_self (put_self (Same.eq (by repeat (first | exact Same.hav | exact Same.refl | refine Same.put rfl ?_ | refine Same.havs rfl ?_))) rfl) rfl, ⟨hb, ha.mod, by rw [← gcd_step]; exact hg, hp⟩, hlt⟩
  · obtain rfl : b = 0 := by
      rcases Nat.eq_zero_or_pos b with h0 | h0
      · exact h0
      · have := (ofN_top (n := b) (by omega)).1
        omega
    rw [Nat.gcd_zero_right] at hg
    subst hg
    (repeat (first | (with_reducible first | apply WP_seq | apply WP_region | apply wpl_nil | apply thenQ_n | apply thenQ_exit | apply WP_ret | apply WP_exit) | ((with_reducible apply inBlk_same); exact rfl) | (apply wlp; (first | apply pv_move | apply pv_assign); exact fT rfl)))
    exact ret_tmp rfl rfl ⟨_, rfl, rfl, hp.keeps⟩
theorem c86 (n d : Nat) (w : World) (hn : Fit n) (hd : Fit d) (hd0 : 0 < d) : Ret Tryz.prog 45 [.bool false, .string (ofN n), .string (ofN d)] w (fun v w' => v = RV (n / Nat.gcd n d) (d / Nat.gcd n d) ∧ Keeps [] w w') := by
  have hg0 : 0 < Nat.gcd n d := Nat.gcd_pos_of_pos_right n hd0
  have hgf : Fit (Nat.gcd n d) := hd.le (Nat.le_of_dvd hd0 (Nat.gcd_dvd_right n d))
  have he := ofN_eq n 0
  rw [ofN_zero] at he
  refine Ret.of_WP Tryz.func45 rfl Tryz.ntmps45 rfl ?_
  have hp := Hp.start (M := []) (w := w)
  (repeat (with_reducible first | apply WP_seq | apply WP_region))
  (apply wls; exact salloc3 hp (zeroTy_ok rfl); rintro _ w0 ⟨b, rfl, hp⟩)
  (repeat (with_reducible first | apply WP_seq | apply WP_region | apply wpl_nil | apply thenQ_n))
  (apply wlp; apply pv_move; exact fT rfl)
  by_cases h0 : n = 0
  · subst h0
    rw [Nat.gcd_zero_left, Nat.zero_div, Nat.div_self hd0]
    (apply wlp; exact pv_seql rfl rfl; exact bool_eq (b := true) (he.trans (decide_eq_true rfl)))
    (repeat (with_reducible first | apply wpl_nil | apply thenQ_n))
    refine WP_cond_t rfl ?_
    (repeat (with_reducible first | apply WP_seq | apply WP_region))
    (apply wls; exact st_call rfl ent37 rfl (c40 1 _ (by decide)); rintro _ w1 ⟨rfl, hk⟩; have hp := hp.call hk)
    rw [show (1 : Int).toNat = 1 from rfl]
    (repeat (first | (with_reducible first | apply wpl_nil | apply thenQ_n | apply thenQ_ret | apply WP_ret) | (apply wlp; ((apply pf_build; exact rfl) <;> exact rfl); exact fA3 rfl) | (apply wls0; exact sstore3 hp 0 rfl rfl rfl rfl (sizeTy_ok rfl) rfl; rintro _ w ⟨rfl, hp⟩)))
    exact ret_cell rfl rfl rfl rfl (hp.agg_blk 0 rfl rfl) ⟨_, rfl, by unfold RV; rw [ofN_zero]; rfl, hp.keeps⟩
  · (apply wlp; exact pv_seql rfl rfl; exact bool_eq (b := false) (he.trans (decide_eq_false h0)))
    (repeat (with_reducible first | apply wpl_nil | apply thenQ_n))
    refine WP_cond_f rfl ?_
    (repeat (first | (with_reducible first | apply WP_seq | apply WP_region | apply thenQ_n | apply WP_skip) | (apply wlp; apply pv_move; exact fT rfl)))
    (apply wls; exact st_call rfl ent78 rfl (c91 n d _ hn hd))
    rintro _ w1 ⟨rfl, hk⟩
    have hp := hp.call hk
    (repeat (first | (with_reducible first | apply WP_seq | apply WP_region | apply wpl_nil | apply thenQ_n) | (apply wlp; (first | apply pv_move | apply pv_assign); exact fT rfl)))
    (apply wls; exact st_call rfl ent28 rfl (c92 _ _ _ hn hgf hg0))
    rintro _ w2 ⟨rfl, hk⟩
    have hp := hp.call hk
    (repeat (first | (with_reducible first | apply WP_seq | apply WP_region | apply wpl_nil | apply thenQ_n) | (apply wlp; ((first | apply pv_move | apply pv_assign | apply pv_extract) <;> exact rfl); (first | exact fB rfl | exact fT rfl | exact fU rfl))))
    (apply wls; exact st_call rfl ent28 rfl (c92 _ _ _ hd hgf hg0))
    rintro _ w3 ⟨rfl, hk⟩
    have hp := hp.call hk
    (repeat (first | (with_reducible first | apply WP_seq | apply WP_region | apply wpl_nil | apply thenQ_n) | (apply wlp; ((first | apply pv_move | apply pv_assign | apply pv_extract | (apply pf_build; exact rfl)) <;> exact rfl); (first | exact fB rfl | exact fT rfl | exact fA3 rfl | exact fU rfl))))
    (repeat (first | (with_reducible first | apply wpl_nil | apply thenQ_n | apply WP_ret) | (apply wls0; exact sstore3 hp 0 rfl rfl rfl rfl (sizeTy_ok rfl) rfl; rintro _ w ⟨rfl, hp⟩)))
    exact ret_cell rfl rfl rfl rfl (hp.agg_blk 0 rfl rfl) ⟨_, rfl, rfl, hp.keeps⟩
theorem one_fit : Fit 1 := Fit.small (by decide)
/-- a rational number, as it lies in memory -/
def eQ (q : Nat × Nat) : List Value := [.bool false, .string (ofN q.1), .string (ofN q.2)]
structure Red (n d : Nat) : Prop where
  g : Nat.gcd n d = 1
  d0 : 0 < d
  fn : Fit n
  fd : Fit d
theorem Red.low {n d : Nat} (hn : Fit n) (hd : Fit d) (h0 : 0 < d) : Red (n / Nat.gcd n d) (d / Nat.gcd n d) := by
  have hg : 0 < Nat.gcd n d := Nat.gcd_pos_of_pos_right n h0
  refine ⟨?_, ?_, hn.le (Nat.div_le_self _ _), hd.le (Nat.div_le_self _ _)⟩
  · rw [Nat.gcd_div (Nat.gcd_dvd_left n d) (Nat.gcd_dvd_right n d), Nat.div_self hg]
  · exact Nat.div_pos (Nat.le_of_dvd h0 (Nat.gcd_dvd_right n d)) hg
theorem p77 {n d : Nat} (h : Red n d) (w : World) : Ret Tryz.prog 77 [RV n d] w (fun v w' => v = .bool true ∧ Keeps [] w w') := by
  have he := ofN_eq n 0
  rw [ofN_zero] at he
  have hed := ofN_eq d 0
  rw [ofN_zero] at hed
  have hd0 := h.d0
  refine Ret.of_WP Tryz.func77 rfl Tryz.ntmps77 rfl ?_
  have hp := Hp.start (M := []) (w := w)
  (repeat (first | (with_reducible first | apply WP_seq | apply WP_region | apply wpl_nil | apply thenQ_n) | (apply wlp; ((first | apply pv_assign | apply pf_field | (apply pf_load; exact rfl)) <;> (first | exact rfl | exact hp.cell 0 rfl rfl)); (first | exact fB rfl | exact fP rfl | exact fT rfl)) | (apply wls; exact sbox3 hp rfl; rintro _ w ⟨b, rfl, hp⟩)))
  (apply wls; exact st_call rfl ent95 rfl (c85 n _))
  rintro _ w1 ⟨rfl, hk⟩
  have hp := hp.call hk
  (repeat (first | (with_reducible first | apply WP_seq | apply WP_region | apply wpl_nil | apply thenQ_n) | (apply wlp; ((first | apply pv_assign | apply pf_field | (apply pf_load; exact rfl)) <;> (first | exact rfl | exact hp.cell 0 rfl rfl)); (first | exact fB rfl | exact fP rfl | exact fT rfl))))
  (apply wls; exact st_call rfl ent95 rfl (c85 d _))
  rintro _ w2 ⟨rfl, hk⟩
  have hp := hp.call hk
  skip
  (apply wlp; apply pv_assign; exact fB rfl)
  (repeat (with_reducible first | apply WP_seq | apply WP_region | apply wpl_nil | apply thenQ_n))
  (apply wlp; apply pv_move; exact fB rfl)
  (apply wlp; (apply pv_not <;> exact rfl); exact fB rfl)
  (apply wlp; apply pv_move; exact fB rfl)
  ((apply wlpT; exact rfl; exact rfl); (apply pv_move); (intros; exact fB rfl))
  ((apply wlpT; exact rfl; exact rfl); ((apply pv_not <;> exact rfl)); (intros; exact fB rfl))
  (apply wlp; exact pv_orF rfl rfl; exact fB rfl)
  (apply wlp; apply pv_move; exact fB rfl)
  ((apply wlpT; exact rfl; exact rfl); ((apply pf_field <;> exact rfl)); (intros; exact fP rfl))
  ((apply wlpT; exact rfl; exact rfl); (((apply pf_load; exact rfl) <;> (first | exact rfl | exact hp.cell 0 rfl rfl))); (intros; exact fT rfl))
  (apply wlpT; exact rfl; exact rfl; exact pv_seql rfl rfl; exact bool_eq (b := false) (hed.trans (decide_eq_false (by omega))))
  (apply wlp; exact pv_orF rfl rfl; exact fB rfl)
  (repeat (with_reducible first | apply wpl_nil | apply thenQ_n))
  refine WP_cond_f rfl ?_
  (repeat (with_reducible first | apply WP_seq | apply WP_region | apply thenQ_n | apply WP_skip))
  (apply wlp; (apply pf_field <;> exact rfl); exact fP rfl)
  (apply wlp; ((apply pf_load; exact rfl) <;> (first | exact rfl | exact hp.cell 0 rfl rfl)); exact fT rfl)
  by_cases h0 : n = 0
  · have hd1 : d = 1 := by have := h.g; rw [h0, Nat.gcd_zero_left] at this; exact this
    (apply wlp; exact pv_seql rfl rfl; exact bool_eq (b := true) (he.trans (decide_eq_true h0)))
    (repeat (with_reducible first | apply wpl_nil | apply thenQ_n))
    refine WP_cond_t rfl ?_
    (repeat with_reducible apply WP_seq)
    refine WP_draw mixed (by kernel_rfl) (fun w' => Hp _ _ w' _) hp.drew ?_
    have hp := hp.drew
    (repeat (first | ((apply wdp; exact rfl); (intro w hp; intros; ((first | apply pv_move | apply pf_field | (apply pf_load; exact rfl) | apply pv_not) <;> (first | exact rfl | exact hp.cell 0 rfl rfl))); (intros; (first | exact fB rfl | exact fP rfl | exact fT rfl))) | ((apply wdpT; exact rfl; exact rfl; exact rfl); (intro w hp; ((first | apply pv_move | apply pf_field | (apply pf_load; exact rfl) | apply pv_not) <;> (first | exact rfl | exact hp.cell 0 rfl rfl))); (intros; (first | exact fB rfl | exact fP rfl | exact fT rfl))) | (apply wdpF; exact rfl; exact rfl; exact rfl; exact rfl) | (apply wdpU; exact rfl; exact rfl; exact rfl)))
    (apply wdsT; exact rfl; exact rfl; exact rfl; exact st_call rfl ent37 rfl (c40 1 _ (by decide)); rintro _ w3 ⟨rfl, hk⟩; have hp := hp.call hk; refine ⟨hp, ?_⟩)
    rw [show (1 : Int).toNat = 1 from rfl]
    (apply wdsT; exact rfl; exact rfl; exact rfl; exact st_call rfl ent25 rfl (c50 d 1 _ h.fd one_fit); rintro _ w4 ⟨rfl, hk⟩; have hp := hp.call hk; refine ⟨hp, ?_⟩)
    rw [hd1, if_neg (by omega), if_pos rfl]
    (apply wdpT; exact rfl; exact rfl; exact rfl; (intro w hp; exact pv_eql rfl rfl); exact bool_eq (b := true) (by decide))
    (repeat (first | ((apply wdp; exact rfl); (intro w hp; intros; (first | apply pv_assign | exact pv_andT rfl rfl)); (intros; exact fB rfl)) | (apply wdpF; exact rfl; exact rfl; exact rfl; exact rfl) | (apply wdpU; exact rfl; exact rfl; exact rfl)))
    refine wpd_nil ?_
    (repeat (with_reducible first | apply thenQ_n | apply thenQ_ret | apply WP_ret))
    exact ret_tmp rfl rfl ⟨_, rfl, rfl, hp.keeps⟩
  · (apply wlp; exact pv_seql rfl rfl; exact bool_eq (b := false) (he.trans (decide_eq_false h0)))
    (repeat (with_reducible first | apply wpl_nil | apply thenQ_n))
    refine WP_cond_f rfl ?_
    (repeat (first | (with_reducible first | apply WP_seq | apply WP_region | apply thenQ_n | apply WP_skip) | (apply wlp; ((first | apply pf_field | (apply pf_load; exact rfl)) <;> (first | exact rfl | exact hp.cell 0 rfl rfl)); (first | exact fP rfl | exact fT rfl))))
    (apply wls; exact st_call rfl ent78 rfl (c91 n d _ h.fn h.fd))
    rintro _ w3 ⟨rfl, hk⟩
    have hp := hp.call hk
    skip
    (apply wls; exact st_call rfl ent37 rfl (c40 1 _ (by decide)))
    rintro _ w4 ⟨rfl, hk⟩
    have hp := hp.call hk
    rw [show (1 : Int).toNat = 1 from rfl, h.g]
    skip
    (apply wls; exact st_call rfl ent25 rfl (c50 1 1 _ one_fit one_fit))
    rintro _ w5 ⟨rfl, hk⟩
    have hp := hp.call hk
    rw [if_neg (by omega), if_pos rfl]
    (apply wlp; exact pv_eql rfl rfl; exact bool_eq (b := true) (by decide))
    (repeat (first | (with_reducible first | apply wpl_nil | apply thenQ_n | apply WP_ret) | (apply wlp; apply pv_assign; exact fB rfl)))
    exact ret_tmp rfl rfl ⟨_, rfl, rfl, hp.keeps⟩
theorem p44 {n d : Nat} (h : Red n d) (w : World) : Ret Tryz.prog 44 [RV n d] w (fun v w' => v = RV n d ∧ Keeps [] w w') := by
  refine Ret.of_WP Tryz.func44 rfl Tryz.ntmps44 rfl ?_
  have hp := Hp.start (M := []) (w := w)
  (repeat (first | (with_reducible first | apply WP_seq | apply WP_region | apply wpl_nil | apply thenQ_n) | (apply wlp; ((apply pf_loadb; exact rfl) <;> (first | exact rfl | exact hp.agg_blk 1 rfl rfl)); exact fA3 rfl) | (apply wls; (first | exact sbox3 hp rfl | exact salloc3 hp (zeroTy_ok rfl)); rintro _ w ⟨b, rfl, hp⟩)))
  (apply wls; exact st_call rfl ent77 rfl (p77 h _))
  rintro _ w1 ⟨rfl, hk⟩
  have hp := hp.call hk
  (repeat (first | (with_reducible first | apply WP_seq | apply WP_region | apply wpl_nil | apply thenQ_n) | (apply wlp; ((first | apply pv_move | apply pv_assign | apply pv_not) <;> exact rfl); exact fB rfl)))
  refine WP_cond_f rfl ?_
  (repeat (first | (with_reducible first | apply WP_seq | apply WP_region | apply wpl_nil | apply thenQ_n | apply WP_ret | apply WP_skip) | (apply wlp; ((apply pf_loadb; exact rfl) <;> (first | exact rfl | exact hp.agg_blk 1 rfl rfl)); exact fA3 rfl) | (apply wls0; exact sstore3 hp 0 rfl rfl rfl rfl (sizeTy_ok rfl) rfl; rintro _ w ⟨rfl, hp⟩)))
  exact ret_cell rfl rfl rfl rfl (hp.agg_blk 0 rfl rfl) ⟨_, rfl, rfl, hp.keeps⟩
theorem p19 (a : Int) (w : World) (h0 : 0 ≤ a) (h2 : a ≤ 9223372036854775807) : Ret Tryz.prog 19 [.int .i64 a] w (fun v w' => v = RV a.toNat 1 ∧ Keeps [] w w') := by
  refine Ret.of_WP Tryz.func19 rfl Tryz.ntmps19 rfl ?_
  have hp := Hp.start (M := []) (w := w)
  (repeat (first | (with_reducible first | apply WP_seq | apply WP_region | apply wpl_nil | apply thenQ_n) | (apply wlp; ((first | apply pv_move | apply pv_geq) <;> exact rfl); (first | exact fI rfl | exact fB rfl)) | (apply wls; exact salloc3 hp (zeroTy_ok rfl); rintro _ w ⟨b, rfl, hp⟩)))
  refine WP_cond_d rfl (fun _ => ?_) (fun h => absurd h0 h)
  (repeat (first | (with_reducible first | apply WP_seq | apply WP_region) | (apply wlp; apply pv_move; exact fI rfl)))
  (apply wls; exact st_call rfl ent37 rfl (c40 a _ h2))
  rintro _ w1 ⟨rfl, hk⟩
  have hp := hp.call hk
  skip
  (apply wls; exact st_call rfl ent37 rfl (c40 1 _ (by decide)))
  rintro _ w2 ⟨rfl, hk⟩
  have hp := hp.call hk
  rw [show (1 : Int).toNat = 1 from rfl]
  (repeat (first | (with_reducible first | apply wpl_nil | apply thenQ_n | apply thenQ_ret | apply WP_ret) | (apply wlp; ((apply pf_build; exact rfl) <;> exact rfl); exact fA3 rfl) | (apply wls0; exact sstore3 hp 0 rfl rfl rfl rfl (sizeTy_ok rfl) rfl; rintro _ w ⟨rfl, hp⟩)))
  exact ret_cell rfl rfl rfl rfl (hp.agg_blk 0 rfl rfl) ⟨_, rfl, rfl, hp.keeps⟩
theorem p18 {a e c d : Nat} (h1 : Red a e) (h2 : Red c d) (hc : 0 < c) (hf1 : Fit (a * d)) (hf2 : Fit (e * c)) (w : World) :
    Ret Tryz.prog 18 [RV a e, RV c d] w (fun v w' => v = .tuple #[RV (a * d / Nat.gcd (a * d) (e * c)) (e * c / Nat.gcd (a * d) (e * c)), .bool true] ∧ Keeps [] w w') := by
  have he := ofN_eq c 0
  rw [ofN_zero] at he
  refine Ret.of_WP Tryz.func18 rfl Tryz.ntmps18 rfl ?_
  have hp := Hp.start (M := []) (w := w)
  (repeat (first | (with_reducible first | apply WP_seq | apply WP_region | apply wpl_nil | apply thenQ_n) | (apply wlp; ((first | apply pv_assign | (apply pf_loadb; exact rfl)) <;> (first | exact rfl | exact hp.agg_blk 2 rfl rfl)); (first | exact fB rfl | exact fA3 rfl)) | (apply wls; (first | exact sbox3 hp rfl | exact salloc3 hp (zeroTy_ok rfl)); rintro _ w ⟨b, rfl, hp⟩)))
  (apply wls; exact st_call rfl ent44 rfl (p44 h1 _))
  rintro _ w1 ⟨rfl, hk⟩
  have hp := hp.call hk
  (apply wls0; exact sstore3 hp 2 rfl rfl rfl rfl (sizeTy_ok rfl) rfl; rintro _ w2 ⟨rfl, hp⟩)
  have hp := hp.norm 2 [.bool false, .string (ofN a), .string (ofN e)] rfl rfl
  (repeat (first | (with_reducible first | apply WP_seq | apply WP_region | apply wpl_nil | apply thenQ_n) | (apply wlp; ((apply pf_loadb; exact rfl) <;> (first | exact rfl | exact hp.agg_blk 1 rfl rfl)); exact fA3 rfl)))
  (apply wls; exact st_call rfl ent44 rfl (p44 h2 _))
  rintro _ w3 ⟨rfl, hk⟩
  have hp := hp.call hk
  (apply wls0; exact sstore3 hp 1 rfl rfl rfl rfl (sizeTy_ok rfl) rfl; rintro _ w4 ⟨rfl, hp⟩)
  have hp := hp.norm 1 [.bool false, .string (ofN c), .string (ofN d)] rfl rfl
  (repeat (with_reducible first | apply WP_seq | apply WP_region | apply wpl_nil | apply thenQ_n))
  (apply wlp; (apply pf_field <;> exact rfl); exact fP rfl)
  (apply wlp; ((apply pf_load; exact rfl) <;> (first | exact rfl | exact hp.cell 1 rfl rfl)); exact fT rfl)
  (apply wlp; exact pv_seql rfl rfl; exact bool_eq (b := false) (he.trans (decide_eq_false (by omega))))
  (repeat (with_reducible first | apply wpl_nil | apply thenQ_n))
  refine WP_cond_f rfl ?_
  (repeat (with_reducible first | apply WP_seq | apply thenQ_n | apply WP_skip))
  refine WP_drawS mixed (by kernel_rfl) (fun w' => Hp _ _ w' _) hp.drew ?_
  have hp := hp.drew
  (repeat ((apply wdp; exact rfl); (intro w hp; intros; ((first | apply pf_field | (apply pf_load; exact rfl)) <;> (first | exact rfl | exact hp.cell 1 rfl rfl | exact hp.cell 2 rfl rfl))); (intros; (first | exact fB rfl | exact fP rfl))))
  (apply wdp; exact rfl; (intro w hp; exact pv_bneq Tryz.underlying4 rfl rfl); exact bool_eq (b := false) rfl)
  (repeat ((apply wdp; exact rfl); (intro w hp; intros; ((first | apply pf_field | (apply pf_load; exact rfl)) <;> (first | exact rfl | exact hp.cell 1 rfl rfl | exact hp.cell 2 rfl rfl))); (intros; (first | exact fP rfl | exact fT rfl))))
  (apply wds; exact rfl; exact st_call rfl ent36 rfl (c43 a d _ h1.fn h2.fd); rintro _ w5 ⟨rfl, hk⟩; have hp := hp.call hk; refine ⟨hp, ?_⟩)
  (repeat ((apply wdp; exact rfl); (intro w hp; intros; ((first | apply pf_field | (apply pf_load; exact rfl)) <;> (first | exact rfl | exact hp.cell 1 rfl rfl | exact hp.cell 2 rfl rfl))); (intros; (first | exact fP rfl | exact fT rfl))))
  (apply wds; exact rfl; exact st_call rfl ent36 rfl (c43 e c _ h1.fd h2.fn); rintro _ w6 ⟨rfl, hk⟩; have hp := hp.call hk; refine ⟨hp, ?_⟩)
  skip
  (apply wds; exact rfl; exact st_call rfl ent45 rfl (c86 (a * d) (e * c) _ hf1 hf2 (Nat.mul_pos h1.d0 hc)); rintro _ w7 ⟨rfl, hk⟩; have hp := hp.call hk; refine ⟨hp, ?_⟩)
  (apply wds0S; exact rfl; exact rfl; exact sstore3 hp 0 rfl rfl rfl rfl (sizeTy_ok rfl) rfl; rintro _ w8 ⟨rfl, hp⟩)
  (repeat (apply wdp; exact rfl; (intro w hp; exact pv_assign); exact rfl))
  refine wpd_nil ?_
  (repeat (with_reducible first | apply thenQ_n | apply WP_ret))
  exact ret_cell2 rfl rfl rfl rfl rfl (hp.agg_blk 0 rfl rfl) ⟨_, rfl, rfl, hp.keeps⟩
theorem p20 {a e c d : Nat} (h1 : Red a e) (h2 : Red c d) (hf1 : Fit (a * d)) (hf2 : Fit (c * e)) (hf3 : Fit (a * d + c * e)) (hf4 : Fit (e * d)) (w : World) :
    Ret Tryz.prog 20 [RV a e, RV c d] w (fun v w' => v = RV ((a * d + c * e) / Nat.gcd (a * d + c * e) (e * d)) (e * d / Nat.gcd (a * d + c * e) (e * d)) ∧ Keeps [] w w') := by
  refine Ret.of_WP Tryz.func20 rfl Tryz.ntmps20 rfl ?_
  have hp := Hp.start (M := []) (w := w)
  (repeat (first | (with_reducible first | apply WP_seq | apply WP_region | apply wpl_nil | apply thenQ_n) | (apply wlp; ((apply pf_loadb; exact rfl) <;> (first | exact rfl | exact hp.agg_blk 2 rfl rfl)); exact fA3 rfl) | (apply wls; (first | exact sbox3 hp rfl | exact salloc3 hp (zeroTy_ok rfl)); rintro _ w ⟨b, rfl, hp⟩)))
  (apply wls; exact st_call rfl ent44 rfl (p44 h1 _))
  rintro _ w1 ⟨rfl, hk⟩
  have hp := hp.call hk
  (apply wls0; exact sstore3 hp 2 rfl rfl rfl rfl (sizeTy_ok rfl) rfl; rintro _ w2 ⟨rfl, hp⟩)
  have hp := hp.norm 2 [.bool false, .string (ofN a), .string (ofN e)] rfl rfl
  (repeat (first | (with_reducible first | apply WP_seq | apply WP_region | apply wpl_nil | apply thenQ_n) | (apply wlp; ((apply pf_loadb; exact rfl) <;> (first | exact rfl | exact hp.agg_blk 1 rfl rfl)); exact fA3 rfl)))
  (apply wls; exact st_call rfl ent44 rfl (p44 h2 _))
  rintro _ w3 ⟨rfl, hk⟩
  have hp := hp.call hk
  (apply wls0; exact sstore3 hp 1 rfl rfl rfl rfl (sizeTy_ok rfl) rfl; rintro _ w4 ⟨rfl, hp⟩)
  have hp := hp.norm 1 [.bool false, .string (ofN c), .string (ofN d)] rfl rfl
  (repeat (first | (with_reducible first | apply WP_seq | apply WP_region | apply wpl_nil | apply thenQ_n) | (apply wlp; ((first | apply pf_field | (apply pf_load; exact rfl)) <;> (first | exact rfl | exact hp.cell 1 rfl rfl | exact hp.cell 2 rfl rfl)); (first | exact fP rfl | exact fT rfl))))
  (apply wls; exact st_call rfl ent36 rfl (c43 a d _ h1.fn h2.fd))
  rintro _ w5 ⟨rfl, hk⟩
  have hp := hp.call hk
  (repeat (first | (with_reducible first | apply WP_seq | apply WP_region | apply wpl_nil | apply thenQ_n) | (apply wlp; ((first | apply pv_assign | apply pf_field | (apply pf_load; exact rfl)) <;> (first | exact rfl | exact hp.cell 1 rfl rfl | exact hp.cell 2 rfl rfl)); (first | exact fP rfl | exact fT rfl))))
  (apply wls; exact st_call rfl ent36 rfl (c43 c e _ h2.fn h1.fd))
  rintro _ w6 ⟨rfl, hk⟩
  have hp := hp.call hk
  (repeat (first | (with_reducible first | apply WP_seq | apply WP_region | apply wpl_nil | apply thenQ_n) | (apply wlp; ((first | apply pv_assign | apply pf_field | (apply pf_load; exact rfl)) <;> (first | exact rfl | exact hp.cell 1 rfl rfl | exact hp.cell 2 rfl rfl)); (first | exact fP rfl | exact fT rfl))))
  (apply wls; exact st_call rfl ent36 rfl (c43 e d _ h1.fd h2.fd))
  rintro _ w7 ⟨rfl, hk⟩
  have hp := hp.call hk
  (repeat (first | (with_reducible first | apply WP_seq | apply WP_region | apply wpl_nil | apply thenQ_n) | (apply wlp; ((first | apply pv_assign | apply pf_field | (apply pf_load; exact rfl)) <;> (first | exact rfl | exact hp.cell 1 rfl rfl | exact hp.cell 2 rfl rfl)); (first | exact fB rfl | exact fP rfl | exact fT rfl))))
  (apply wlp; exact pv_beql Tryz.underlying4 rfl rfl; exact bool_eq (b := true) rfl)
  (repeat (with_reducible first | apply wpl_nil | apply thenQ_n))
  refine WP_cond_t rfl ?_
  (repeat with_reducible apply WP_seq)
  refine WP_drawS mixed (by kernel_rfl) (fun w' => Hp _ _ w' _) hp.drew ?_
  have hp := hp.drew
  (repeat ((apply wdp; exact rfl); (intro w hp; intros; ((first | apply pv_move | apply pf_field | (apply pf_load; exact rfl)) <;> (first | exact rfl | exact hp.cell 2 rfl rfl))); (intros; (first | exact fB rfl | exact fP rfl | exact fT rfl))))
  (apply wds; exact rfl; exact st_call rfl ent32 rfl (c41 (a * d) (c * e) _ hf1 hf2); rintro _ w8 ⟨rfl, hk⟩; have hp := hp.call hk; refine ⟨hp, ?_⟩)
  (repeat ((apply wdp; exact rfl); (intro w hp; intros; apply pv_move); (intros; exact fT rfl)))
  (apply wds; exact rfl; exact st_call rfl ent45 rfl (c86 (a * d + c * e) (e * d) _ hf3 hf4 (Nat.mul_pos h1.d0 h2.d0)); rintro _ w9 ⟨rfl, hk⟩; have hp := hp.call hk; refine ⟨hp, ?_⟩)
  (apply wds0S; exact rfl; exact rfl; exact sstore3 hp 0 rfl rfl rfl rfl (sizeTy_ok rfl) rfl; rintro _ w10 ⟨rfl, hp⟩)
  refine wpd_nil ?_
  (repeat (with_reducible first | apply thenQ_n | apply thenQ_ret | apply WP_ret))
  exact ret_cell rfl rfl rfl rfl (hp.agg_blk 0 rfl rfl) ⟨_, rfl, rfl, hp.keeps⟩
theorem rv_eq (a b c d : Nat) : ((false == false) && (decide (ofN a = ofN c) && decide (ofN b = ofN d))) = decide ((a, b) = (c, d)) := by
  rw [ofN_eq, ofN_eq]
  by_cases h1 : a = c <;> by_cases h2 : b = d <;> simp [h1, h2]
theorem p17 (a b : List (Nat × Nat)) (s s2 : Option Addr) (c c2 : Nat) (w : World) (hs : SlAt w 3 eQ s a) (hs2 : SlAt w 3 eQ s2 b) (hla : a.length ≤ 1000000) (hlb : b.length ≤ 1000000) :
    Ret Tryz.prog 17 [.slice s a.length c, .slice s2 b.length c2] w (fun v w' => v = .bool (decide (a = b)) ∧ Keeps [] w w') := by
  refine Ret.of_WP Tryz.func17 rfl Tryz.ntmps17 rfl ?_
  have hp := Hp.start (M := []) (w := w)
  (repeat (first | (with_reducible first | apply WP_seq | apply WP_region | apply wpl_nil | apply thenQ_n) | (apply wlp; ((first | apply pv_move | apply pv_assign | (apply pf_len; exact rfl) | (apply pv_neq; (first | exact rfl | exact ev_sel rfl (by assumption)))) <;> exact rfl); (first | exact fI rfl | exact fB rfl | exact fS rfl))))
  refine WP_cond_nd rfl (fun h => ?_) (fun h => ?_)
  · have hne : a ≠ b := by rintro rfl; exact h rfl
    (repeat (first | (with_reducible first | apply WP_seq | apply WP_region | apply wpl_nil | apply thenQ_n | apply thenQ_ret | apply WP_ret) | (apply wlp; apply pv_assign; exact fB rfl)))
    exact ret_tmp rfl rfl ⟨_, rfl, by rw [decide_eq_false hne]; rfl, hp.keeps⟩
  · have hl : a.length = b.length := by omega
    (repeat (first | (with_reducible first | apply WP_seq | apply WP_block | apply WP_region | apply wpl_nil | apply thenQ_n | apply WP_skip) | (apply wlp; apply pv_assign; exact fI rfl)))
    refine WP_loopS [4, 5, 11, 12, 13, 14, 15, 16, 17, 18, 19, 20, 21, 22, 23, 24, 25] (fun (i : Nat) F => F.put 5 (.int .i64 (i : Int))) (fun i w' => i ≤ a.length ∧ a.take i = b.take i ∧ Hp w [] w' []) (fun i => a.length - i) 0 (put_self (Same.eq .refl) rfl) ⟨Nat.zero_le _, rfl, hp⟩ ?_
    clear hp
    rintro u i w1 ⟨hi, he, hp⟩
    (repeat (first | (with_reducible first | apply WP_seq | apply WP_region | apply wpl_nil | apply thenQ_n) | (apply wlp; ((first | apply pv_move | (apply pf_len; exact rfl) | apply pv_lss) <;> exact rfl); (first | exact fI rfl | exact fB rfl | exact fS rfl))))
    refine WP_cond_d rfl (fun h2 => ?_) (fun h2 => ?_)
    · have hlt : i < a.length := by omega
      have hlt2 : i < b.length := by omega
      obtain ⟨b0, o0, hs0, hc0⟩ := hs.base (by omega)
      have hci := hc0 i _ (List.getElem?_eq_getElem hlt)
      obtain ⟨b1, o1, hs1, hc1⟩ := hs2.base (by omega)
      have hcj := hc1 i _ (List.getElem?_eq_getElem hlt2)
      have ht1 := List.take_succ_eq_append_getElem hlt
      have ht2 := List.take_succ_eq_append_getElem hlt2
      have hne : a[i] ≠ b[i] → a ≠ b := by rintro h rfl; exact h rfl
      generalize a[i] = x at hci ht1 hne
      generalize b[i] = y at hcj ht2 hne
      obtain ⟨x1, x2⟩ := x
      obtain ⟨y1, y2⟩ := y
      (repeat (with_reducible first | apply WP_seq | apply WP_block | apply thenQ_n | apply WP_skip))
      refine WP_draw mixed (by kernel_rfl) (fun w' => Hp _ _ w' _) hp.drew ?_
      have hp := hp.drew
      (repeat ((apply wdp; exact rfl); (intro w hp; intros; ((first | apply pv_move | (apply pf_loadb; exact rfl) | (apply pf_index; exact rfl)) <;> (first | exact rfl | assumption))); (intros; (first | exact fI rfl | exact fP rfl | exact fS rfl))))
      (apply wdp; exact rfl; (intro w hp; exact pf_loads (vs := eQ (x1, x2)) rfl rfl rfl rfl (fun j v hv => hp.old0 (hci j v hv))); exact fA3 rfl)
      (repeat ((apply wdp; exact rfl); (intro w hp; intros; ((first | apply pv_move | (apply pf_loadb; exact rfl) | (apply pf_index; exact rfl)) <;> (first | exact rfl | assumption))); (intros; (first | exact fI rfl | exact fP rfl | exact fS rfl))))
      (apply wdp; exact rfl; (intro w hp; exact pf_loads (vs := eQ (y1, y2)) rfl rfl rfl rfl (fun j v hv => hp.old0 (hcj j v hv))); exact fA3 rfl)
      (apply wdp; exact rfl; (intro w hp; exact pv_ne55 rfl rfl); exact bool_eq (congrArg Bool.not (rv_eq x1 x2 y1 y2)))
      refine wpd_nil ?_
      (repeat with_reducible apply thenQ_n)
      refine WP_cond_nd rfl (fun h3 => ?_) (fun h3 => ?_)
      · (repeat (first | (with_reducible first | apply WP_seq | apply WP_region | apply wpl_nil | apply thenQ_n | apply thenQ_ret | apply inBlk_ret | apply WP_ret) | (apply wlp; apply pv_assign; exact fB rfl)))
        exact ret_tmp rfl rfl ⟨_, rfl, by rw [decide_eq_false (hne h3)]; rfl, hp.keeps⟩
      · (repeat (first | (with_reducible first | apply WP_region | apply thenQ_n | apply inBlk_n | apply WP_skip) | (apply wlp; apply pv_move; exact fI rfl)))
        (apply wlp; exact pv_add rfl rfl; exact int_eq (i64_in (by omega) (by omega)))
        (repeat (first | (with_reducible first | apply wpl_nil | apply thenQ_n) | (apply wlp; apply pv_assign; exact fI rfl)))
        exact ⟨i + 1, put_self (Same.eq (by repeat (first | exact Same.hav | exact Same.refl | refine Same.put rfl ?_ | refine Same.havs rfl ?_))) rfl, ⟨by omega, by rw [ht1, ht2, he, h3], hp⟩, by omega⟩
    · obtain rfl : i = a.length := by omega
      have hab : a = b := by
        rw [List.take_length, hl, List.take_length] at he
        exact he
      (repeat (first | (with_reducible first | apply WP_seq | apply WP_region | apply wpl_nil | apply thenQ_n | apply thenQ_exit | apply WP_ret | apply WP_exit) | ((with_reducible apply inBlk_same); exact rfl) | (apply wlp; apply pv_assign; exact fB rfl)))
      exact ret_tmp rfl rfl ⟨_, rfl, by rw [decide_eq_true hab]; rfl, hp.keeps⟩
end Go.Proofs.YtfjbioghpgmkiaaGreatDoor
/- sortesref19.Plan.Make; conditions: the plan lies in memory. -/
namespace Go.Proofs.YtfjbioghpgmkiaaGreatDoor
open Go.Eng Go.Dig

def eT2 (p : Int × Int) : List Value := [.int .i64 p.1, .int .i64 p.2]
structure Pe where
  cls : Int
  fam : Int
  ws : Option Addr
  wc : Nat
  wl : List Int
def ePe (p : Pe) : List Value := [.int .i64 p.cls, .int .i64 p.fam, .slice p.ws p.wl.length p.wc]
def mkP (p : Int × Int) : ByteArray × Int := (nmI p.1, p.2)
/-- what matters of an entrant -/
abbrev EV := Int × Int × Int × List ByteArray
def evE (e : En) : EV := (e.id, e.cls, e.fam, e.wl)
def mkEV (k : Nat) (p : Pe) : EV := (((k + 1 : Nat) : Int), p.cls, p.fam, (p.wl.take 4).map nmI)
def xN : ByteArray := ⟨#[120]⟩
/-- the entrants' wishes, owned -/
def rowsW (l : List En) : List Ent := l.map fun e => ownL eS 9 1 e.ws e.wc e.wl
theorem rowsW_snoc (l : List En) (e : En) : rowsW (l ++ [e]) = rowsW l ++ [ownL eS 9 1 e.ws e.wc e.wl] := by simp [rowsW]
theorem take_snoc {α : Type} {l : List α} {i : Nat} (h : i < l.length) (k : Nat) (hk : i < k) : (l.take k).take (i + 1) = (l.take k).take i ++ [l[i]] := by
  rw [List.take_take, List.take_take, Nat.min_eq_left (by omega), Nat.min_eq_left (by omega)]
  exact List.take_succ_eq_append_getElem h

attribute [local irreducible] PV StepF wpl wpd WP Ret
attribute [local irreducible] Fit srt tl fl seenL stO isO trn nmI

set_option maxHeartbeats 2000000 in
theorem p12 (lp : List (Int × Int)) (le : List Pe) (sp se : Option Addr) (cp ce : Nat) (w : World) (hsp : SlAt w 2 eT2 sp lp) (hse : SlAt w 3 ePe se le) (hsw : ∀ p ∈ le, SlAt w 1 eI p.ws p.wl) :
    Ret Tryz.prog 12 [.agg #[.slice sp lp.length cp, .slice se le.length ce]] w (fun v w' => ∃ (sP : Option Addr) (cP : Nat) (s : Option Addr) (c : Nat) (l : List En), v = .tuple #[.agg (dB xN 2 sP ((lp.take 6).map mkP).length cP).toArray, .slice s l.length c] ∧
      SlAt w' 2 eP sP ((lp.take 6).map mkP) ∧ EAt w' s l ∧ (∀ e ∈ l, e.wl.length ≤ e.wc) ∧ l.map evE = (le.take 8).mapIdx mkEV ∧ l.length ≤ c ∧ Keeps [] w w') := by
  refine Ret.of_WP Tryz.func12 rfl Tryz.ntmps12 rfl ?_
  have hp := Hp.start (M := []) (w := w)
  (repeat (with_reducible first | apply WP_seq | apply WP_region))
  (apply wls; exact sbox2 hp rfl; rintro _ w1 ⟨b1, rfl, hp⟩)
  (apply wls; exact salloc13 hp (zeroTy_ok rfl); rintro _ w2 ⟨b2, rfl, hp⟩)
  (repeat (first | (with_reducible first | apply WP_seq | apply WP_region | apply wpl_nil | apply thenQ_n) | (apply wlp; ((first | apply pv_assign | (apply pf_build; exact rfl)) <;> exact rfl); (first | exact fS rfl | exact fA13 rfl))))
  (apply wls; exact salloc13 hp (zeroTy_ok rfl); rintro _ w3 ⟨b4, rfl, hp⟩)
  (apply wls0; exact sstore13 hp 0 rfl rfl rfl rfl (sizeTy_ok rfl) rfl; rintro _ w4 ⟨rfl, hp⟩)
  have hp := hp.norm 0 (dB xN 2 none 0 0) rfl rfl
  have hp := hp.nilL eP 52 2
  have hp : Hp w [] w4 [blk b4 13 (frOf (dB xN 2 none ([] : List (ByteArray × Int)).length 0)) 32, ownL eP 52 2 none 0 [], blk b2 13 (frOf (dB ⟨#[]⟩ 0 none 0 0)) 32, blk b1 2 (frOf [.slice sp lp.length cp, .slice se le.length ce]) 25] := hp.picks [1, 0, 2, 3] _ rfl rfl
  (repeat (first | (with_reducible first | apply WP_seq | apply WP_block | apply WP_region | apply wpl_nil | apply thenQ_n) | (apply wlp; apply pv_assign; exact fI rfl)))
  refine WP_loopS [5, 11, 12, 13, 14, 15, 16, 17, 18, 19, 20, 21, 22, 23, 24, 25, 26, 27, 28, 29, 30, 31, 32, 33, 34, 35, 36, 37, 38, 39, 40] (fun (i : Nat) F => F.put 5 (.int .i64 (i : Int))) (fun i w' => i ≤ lp.length ∧ i ≤ 6 ∧ ∃ sP cP, SVL sP cP (((lp.take 6).take i).map mkP) ∧ Hp w [] w' [blk b4 13 (frOf (dB xN 2 sP (((lp.take 6).take i).map mkP).length cP)) 32, ownL eP 52 2 sP cP (((lp.take 6).take i).map mkP), blk b2 13 (frOf (dB ⟨#[]⟩ 0 none 0 0)) 32, blk b1 2 (frOf [.slice sp lp.length cp, .slice se le.length ce]) 25]) (fun i => 6 - i) 0 (put_self (Same.eq .refl) rfl) ⟨Nat.zero_le _, Nat.zero_le _, none, 0, .nil, hp⟩ ?_
  (repeat clear hp)
  rintro u i w5 ⟨hi, hi6, sP, cP, hvP, hp⟩
  (repeat (first | (with_reducible first | apply WP_seq | apply WP_region | apply wpl_nil | apply thenQ_n) | ((first | apply wlp | (apply wlg; exact rfl; exact rfl)); (intros; ((first | apply pv_move | apply pf_field | (apply pf_load; exact rfl) | (apply pf_len; exact rfl) | exact pv_and rfl rfl rfl | apply pv_lss) <;> (first | exact rfl | exact ev_sel rfl (by assumption) | exact hp.cell 3 rfl rfl))); (intros; (first | exact fI rfl | exact fB rfl | exact fP rfl | exact fS rfl)))))
  refine WP_cond rfl (fun hlt => ?_) (fun hlt => ?_)
  · simp only [Bool.and_eq_true, decide_eq_true_eq] at hlt
    have hlt6 : i < 6 := by omega
    have hlt : i < lp.length := by omega
    obtain ⟨b0, o0, hs0, hc0⟩ := hsp.base (by omega)
    have hci := hc0 i _ (List.getElem?_eq_getElem hlt)
    have htk := take_snoc hlt 6 hlt6
    generalize lp[i] = p at hci htk
    obtain ⟨pa, pb⟩ := p
    have hc1 := hci 0 _ rfl
    have hc2 := hci 1 _ rfl
    have htk2 : ((lp.take 6).take (i + 1)).map mkP = ((lp.take 6).take i).map mkP ++ [mkP (pa, pb)] := by rw [htk, List.map_append]; rfl
    have hTl : (((lp.take 6).take i).map mkP).length ≤ 6 := by rw [List.length_map, List.length_take]; omega
    generalize ((lp.take 6).take i).map mkP = T at hvP hp hTl htk2
    (repeat (with_reducible first | apply WP_seq | apply WP_block | apply thenQ_n | apply WP_skip))
    refine WP_drawS mixed (by kernel_rfl) (fun w' => Hp _ _ w' _) hp.drew ?_
    have hp := hp.drew
    (repeat ((apply wdp; exact rfl); (intro w hp; intros; ((first | apply pv_move | apply pf_field | (apply pf_load; exact rfl) | (apply pf_index; exact rfl) | (apply pf_index_a; exact rfl)) <;> (first | exact rfl | assumption | exact hp.cell 0 rfl rfl | exact hp.cell 3 rfl rfl))); (intros; (first | exact fI rfl | exact fP rfl | exact fS rfl))))
    (apply wdp; exact rfl; (intro w hp; exact pf_index_a (i := 0) rfl rfl rfl (by decide)); exact fP rfl)
    (apply wdp; exact rfl; (intro w hp; exact pf_load rfl rfl (hp.old0 hc1)); exact fI rfl)
    (apply wds; exact rfl; exact st_call rfl ent34 rfl (p34 pa _); rintro _ w6 ⟨rfl, hk⟩; have hp := hp.call hk; refine ⟨hp, ?_⟩)
    (repeat ((apply wdp; exact rfl); (intro w hp; intros; ((first | apply pv_move | apply pf_field | (apply pf_load; exact rfl) | (apply pf_index; exact rfl) | (apply pf_index_a; exact rfl)) <;> (first | exact rfl | assumption | exact hp.cell 3 rfl rfl))); (intros; (first | exact fI rfl | exact fP rfl | exact fS rfl))))
    (apply wdp; exact rfl; (intro w hp; exact pf_index_a (i := 1) rfl rfl rfl (by decide)); exact fP rfl)
    (apply wdp; exact rfl; (intro w hp; exact pf_load rfl rfl (hp.old0 hc2)); exact fI rfl)
    (repeat ((apply wdp; exact rfl); (intro w hp; intros; ((apply pf_build; exact rfl) <;> exact rfl)); (intros; exact fA2 rfl)))
    (apply wds; exact rfl; exact sf_slice hp rfl rfl rfl rfl rfl rfl rfl; rintro _ w7 ⟨nb, rfl, hp⟩; refine ⟨hp.tail, ?_⟩)
    (apply wdsS; exact rfl; exact rfl; exact sf_app1 eP T (mkP (pa, pb)) hp 2 0 rfl rfl rfl rfl rfl rfl (fun _ => rfl) rfl rfl rfl hvP rfl rfl (by omega); rintro _ w8 ⟨s2, c2, rfl, hv2, hp⟩)
    (repeat ((apply wdp; exact rfl); (intro w hp; intros; (apply pf_field <;> exact rfl)); (intros; exact fP rfl)))
    (apply wds0S; exact rfl; exact rfl; exact sstore1 hp 1 rfl rfl rfl rfl (sizeTy_ok rfl) rfl; rintro _ w9 ⟨rfl, hp⟩)
    refine wpd_nil ?_
    have hp := hp.norm 1 (dB xN 2 s2 (T ++ [mkP (pa, pb)]).length c2) rfl rfl
    have hp := hp.tail
    (repeat (first | (with_reducible first | apply WP_region | apply thenQ_n | apply inBlk_n) | (apply wlp; apply pv_move; exact fI rfl)))
    (apply wlp; (exact pv_add rfl rfl); exact int_eq (b := ((i + 1 : Nat) : Int)) (by rw [i64_in (by omega) (by omega)]; omega))
    (repeat (first | (with_reducible first | apply wpl_nil | apply thenQ_n) | (apply wlp; apply pv_assign; exact fI rfl)))
    refine ⟨i + 1, put_self (Same.eq (by repeat (first | exact Same.hav | exact Same.refl | refine Same.put rfl ?_ | refine Same.havs rfl ?_))) rfl, ⟨by omega, by omega, ?_⟩, by omega⟩
    rw [htk2]
    exact ⟨s2, c2, hv2, hp⟩
  simp only [Bool.and_eq_false_iff, decide_eq_false_iff_not] at hlt
  have hTe : (lp.take 6).take i = lp.take 6 := List.take_of_length_le (by rw [List.length_take]; omega)
  rw [hTe] at hvP hp
  have hlen6 : ((lp.take 6).map mkP).length ≤ 6 := by rw [List.length_map, List.length_take]; omega
  generalize (lp.take 6).map mkP = PS at hvP hp hlen6
  clear hlt hTe hi hi6
  have hp := hp.nilL eE 41 6
  have hp : Hp w [] w5 ([blk b4 13 (frOf (dB xN 2 sP PS.length cP)) 32, ownL eP 52 2 sP cP PS, blk b2 13 (frOf (dB ⟨#[]⟩ 0 none 0 0)) 32, blk b1 2 (frOf [.slice sp lp.length cp, .slice se le.length ce]) 25, ownL eE 41 6 none 0 []] ++ rowsW []) := hp.picks [1, 2, 3, 4, 0] _ rfl rfl
  (repeat (first | (with_reducible first | apply WP_seq | apply WP_block | apply WP_region | apply wpl_nil | apply thenQ_n | apply thenQ_exit | apply WP_exit) | ((with_reducible apply inBlk_same); exact rfl) | (apply wlp; apply pv_assign; (first | exact fI rfl | exact fS rfl))))
  refine WP_loopS [6, 7, 8, 9, 41, 42, 43, 44, 45, 46, 47, 48, 49, 50, 51, 52, 53, 54, 55, 56, 57, 58, 59, 60, 61, 62, 63, 64, 65, 66, 67, 68, 69, 70, 71, 72, 73, 74, 75, 76, 77, 78, 79, 80, 81, 82, 83, 84, 85, 86, 87, 88, 89, 90, 91, 92, 93, 94, 95, 96, 97, 98, 99, 100] (fun (X : Nat × Option Addr × Nat × List En) F => (F.put 6 (.slice X.2.1 X.2.2.2.length X.2.2.1)).put 7 (.int .i64 (X.1 : Int)))
    (fun X w' => X.1 ≤ le.length ∧ X.1 ≤ 8 ∧ SVL X.2.1 X.2.2.1 X.2.2.2 ∧ X.2.2.2.length = X.1 ∧ X.2.2.2.map evE = ((le.take 8).take X.1).mapIdx mkEV ∧ (∀ e ∈ X.2.2.2, SVL e.ws e.wc e.wl ∧ e.wl.length ≤ 4) ∧ Hp w [] w' ([blk b4 13 (frOf (dB xN 2 sP PS.length cP)) 32, ownL eP 52 2 sP cP PS, blk b2 13 (frOf (dB ⟨#[]⟩ 0 none 0 0)) 32, blk b1 2 (frOf [.slice sp lp.length cp, .slice se le.length ce]) 25, ownL eE 41 6 X.2.1 X.2.2.1 X.2.2.2] ++ rowsW X.2.2.2)) (fun X => 8 - X.1) (0, none, 0, []) (put_self (put_self (Same.eq .refl) rfl) rfl) ⟨Nat.zero_le _, Nat.zero_le _, .nil, rfl, by simp, by simp, hp⟩ ?_
  (repeat clear hp)
  rintro u ⟨i, s, c, l⟩ w6 ⟨hi, hi8, hvl, hll, hmap, hrw, hp⟩
  dsimp only at hi hi8 hvl hll hmap hrw hp ⊢
  (repeat (first | (with_reducible first | apply WP_seq | apply WP_region | apply wpl_nil | apply thenQ_n) | ((first | apply wlp | (apply wlg; exact rfl; exact rfl)); (intros; ((first | apply pv_move | apply pf_field | (apply pf_load; exact rfl) | (apply pf_len; exact rfl) | exact pv_and rfl rfl rfl | apply pv_lss) <;> (first | exact rfl | exact ev_sel rfl (by assumption) | exact hp.cell 3 rfl rfl))); (intros; (first | exact fI rfl | exact fB rfl | exact fP rfl | exact fS rfl)))))
  refine WP_cond rfl (fun hlt => ?_) (fun hlt => ?_)
  · simp only [Bool.and_eq_true, decide_eq_true_eq] at hlt
    have hlt8 : i < 8 := by omega
    have hlt : i < le.length := by omega
    obtain ⟨b0, o0, hs0, hc0⟩ := hse.base (by omega)
    have hci := hc0 i _ (List.getElem?_eq_getElem hlt)
    have hws := hsw le[i] (List.getElem_mem hlt)
    have htk := take_snoc hlt 8 hlt8
    generalize le[i] = p at hci htk hws
    have hc1 : w.cell? ⟨b0, o0 + i * 3 + 0, none⟩ = some (.int .i64 p.cls) := hci 0 _ rfl
    have hc2 : w.cell? ⟨b0, o0 + i * 3 + 1, none⟩ = some (.int .i64 p.fam) := hci 1 _ rfl
    have hc3 : w.cell? ⟨b0, o0 + i * 3 + 2, none⟩ = some (.slice p.ws p.wl.length p.wc) := hci 2 _ rfl
    have hmap2 : ((le.take 8).take (i + 1)).mapIdx mkEV = ((le.take 8).take i).mapIdx mkEV ++ [mkEV i p] := by
      rw [htk, List.mapIdx_append]
      simp only [List.mapIdx_cons, List.mapIdx_nil, List.length_take]
      rw [show 0 + min i (min 8 le.length) = i from by omega]
    rw [← hmap] at hmap2
    clear htk hmap
    (repeat (with_reducible first | apply WP_seq | apply WP_block | apply thenQ_n | apply WP_skip))
    refine WP_drawS mixed (by kernel_rfl) (fun w' => Hp _ _ w' _) hp.drew ?_
    have hp := hp.drew
    (repeat ((apply wdp; exact rfl); (intro w hp; intros; apply pv_move); (intros; exact fI rfl)))
    (apply wdp; exact rfl; (intro w hp; exact pv_add rfl rfl); exact int_eq (b := ((i + 1 : Nat) : Int)) (by rw [i64_in (by omega) (by omega)]; omega))
    (repeat ((apply wdp; exact rfl); (intro w hp; intros; ((first | apply pv_move | apply pf_field | (apply pf_load; exact rfl) | (apply pf_index; exact rfl) | (apply pf_build; exact rfl)) <;> (first | exact rfl | assumption | exact hp.cell 3 rfl rfl | exact hp.old0 (by assumption)))); (intros; (first | exact fI rfl | exact fP rfl | exact fS rfl | exact fA6 rfl))))
    (apply wds; exact rfl; exact salloc6 hp (zeroTy_ok rfl); rintro _ w7 ⟨pb, rfl, hp⟩; refine ⟨hp.tail, ?_⟩)
    (apply wds0S; exact rfl; exact rfl; exact sstore6 hp 0 rfl rfl rfl rfl (sizeTy_ok rfl) rfl; rintro _ w8 ⟨rfl, hp⟩)
    refine wpd_nil ?_
    have hp := hp.norm 0 (eE ⟨((i + 1 : Nat) : Int), p.cls, p.fam, none, 0, []⟩) rfl rfl
    have hp := hp.nilL eS 9 1
    have hp : Hp w [] w8 ([ownL eS 9 1 none 0 (((p.wl.take 4).take 0).map nmI), blk pb 6 (frOf (eE ⟨((i + 1 : Nat) : Int), p.cls, p.fam, none, 0, ((p.wl.take 4).take 0).map nmI⟩)) 41] ++ ([blk b4 13 (frOf (dB xN 2 sP PS.length cP)) 32, ownL eP 52 2 sP cP PS, blk b2 13 (frOf (dB ⟨#[]⟩ 0 none 0 0)) 32, blk b1 2 (frOf [.slice sp lp.length cp, .slice se le.length ce]) 25, ownL eE 41 6 s c l] ++ rowsW l)) := hp
    (repeat (first | (with_reducible first | apply WP_seq | apply WP_block | apply WP_region | apply wpl_nil | apply thenQ_n) | (apply wlp; apply pv_assign; exact fI rfl)))
    refine WP_loopS [9, 67, 68, 69, 70, 71, 72, 73, 74, 75, 76, 77, 78, 79, 80, 81, 82, 83, 84, 85, 86, 87, 88, 89, 90, 91, 92, 93, 94, 95, 96] (fun (j : Nat) F => F.put 9 (.int .i64 (j : Int)))
      (fun j w' => j ≤ p.wl.length ∧ j ≤ 4 ∧ ∃ ws wc, SVL ws wc (((p.wl.take 4).take j).map nmI) ∧ Hp w [] w' ([ownL eS 9 1 ws wc (((p.wl.take 4).take j).map nmI), blk pb 6 (frOf (eE ⟨((i + 1 : Nat) : Int), p.cls, p.fam, ws, wc, ((p.wl.take 4).take j).map nmI⟩)) 41] ++ ([blk b4 13 (frOf (dB xN 2 sP PS.length cP)) 32, ownL eP 52 2 sP cP PS, blk b2 13 (frOf (dB ⟨#[]⟩ 0 none 0 0)) 32, blk b1 2 (frOf [.slice sp lp.length cp, .slice se le.length ce]) 25, ownL eE 41 6 s c l] ++ rowsW l))) (fun j => 4 - j) 0 (put_self (Same.eq .refl) rfl) ⟨Nat.zero_le _, Nat.zero_le _, none, 0, .nil, hp⟩ ?_
    (repeat clear hp)
    rintro u2 j w9 ⟨hj, hj4, ws, wc, hvw, hp⟩
    (repeat (first | (with_reducible first | apply WP_seq | apply WP_region | apply wpl_nil | apply thenQ_n) | ((first | apply wlp | (apply wlg; exact rfl; exact rfl)); (intros; ((first | apply pv_move | apply pf_field | (apply pf_load; exact rfl) | (apply pf_len; exact rfl) | exact pv_and rfl rfl rfl | apply pv_lss | (apply pf_index; exact rfl)) <;> (first | exact rfl | exact ev_sel rfl (by assumption) | assumption | exact hp.old0 (by assumption) | exact hp.cell 5 rfl rfl))); (intros; (first | exact fI rfl | exact fB rfl | exact fP rfl | exact fS rfl)))))
    refine WP_cond rfl (fun hjt => ?_) (fun hjt => ?_)
    · simp only [Bool.and_eq_true, decide_eq_true_eq] at hjt
      have hjt4 : j < 4 := by omega
      have hjt : j < p.wl.length := by omega
      obtain ⟨b1', o1', hs1, hc1'⟩ := hws.base (by omega)
      have hcj := hc1' j _ (List.getElem?_eq_getElem hjt) 0 _ rfl
      have htj := take_snoc hjt 4 hjt4
      generalize p.wl[j] = a at hcj htj
      have hcj : w.cell? ⟨b1', o1' + j * 1, none⟩ = some (.int .i64 a) := hcj
      have htj2 : ((p.wl.take 4).take (j + 1)).map nmI = ((p.wl.take 4).take j).map nmI ++ [nmI a] := by rw [htj, List.map_append]; rfl
      have hWl : (((p.wl.take 4).take j).map nmI).length ≤ 4 := by rw [List.length_map, List.length_take]; omega
      generalize ((p.wl.take 4).take j).map nmI = W at hvw hp hWl htj2
      clear htj
      (repeat (with_reducible first | apply WP_seq | apply WP_block | apply thenQ_n | apply WP_skip))
      refine WP_drawS mixed (by kernel_rfl) (fun w' => Hp _ _ w' _) hp.drew ?_
      have hp := hp.drew
      (repeat ((apply wdp; exact rfl); (intro w hp; intros; ((first | apply pv_move | apply pf_field | (apply pf_load; exact rfl) | (apply pf_index; exact rfl)) <;> (first | exact rfl | assumption | exact hp.cell 1 rfl rfl | exact hp.old0 (by assumption) | exact hp.cell 5 rfl rfl))); (intros; (first | exact fI rfl | exact fP rfl | exact fS rfl))))
      (apply wds; exact rfl; exact st_call rfl ent34 rfl (p34 a _); rintro _ w10 ⟨rfl, hk⟩; have hp := hp.call hk; refine ⟨hp, ?_⟩)
      (apply wds; exact rfl; exact sf_slice hp rfl rfl rfl rfl rfl rfl rfl; rintro _ w11 ⟨nb, rfl, hp⟩; refine ⟨hp.tail, ?_⟩)
      (apply wdsS; exact rfl; exact rfl; exact sf_app1 eS W (nmI a) hp 1 0 rfl rfl rfl rfl rfl rfl (fun _ => rfl) rfl rfl rfl hvw rfl rfl (by omega); rintro _ w12 ⟨s2, c2, rfl, hv2, hp⟩)
      (repeat ((apply wdp; exact rfl); (intro w hp; intros; (apply pf_field <;> exact rfl)); (intros; exact fP rfl)))
      (apply wds0S; exact rfl; exact rfl; exact sstore1 hp 2 rfl rfl rfl rfl (sizeTy_ok rfl) rfl; rintro _ w13 ⟨rfl, hp⟩)
      refine wpd_nil ?_
      have hp := hp.norm 2 (eE ⟨((i + 1 : Nat) : Int), p.cls, p.fam, s2, c2, W ++ [nmI a]⟩) rfl rfl
      have hp := hp.tail
      (repeat (first | (with_reducible first | apply WP_region | apply thenQ_n | apply inBlk_n) | (apply wlp; apply pv_move; exact fI rfl)))
      (apply wlp; (exact pv_add rfl rfl); exact int_eq (b := ((j + 1 : Nat) : Int)) (by rw [i64_in (by omega) (by omega)]; omega))
      (repeat (first | (with_reducible first | apply wpl_nil | apply thenQ_n) | (apply wlp; apply pv_assign; exact fI rfl)))
      refine ⟨j + 1, put_self (Same.eq (by repeat (first | exact Same.hav | exact Same.refl | refine Same.put rfl ?_ | refine Same.havs rfl ?_))) rfl, ⟨by omega, by omega, ?_⟩, by omega⟩
      rw [htj2]
      exact ⟨s2, c2, hv2, hp⟩
    simp only [Bool.and_eq_false_iff, decide_eq_false_iff_not] at hjt
    have hWe : (p.wl.take 4).take j = p.wl.take 4 := List.take_of_length_le (by rw [List.length_take]; omega)
    rw [hWe] at hvw hp
    have hW4 : ((p.wl.take 4).map nmI).length ≤ 4 := by rw [List.length_map, List.length_take]; omega
    obtain ⟨E, hE⟩ : ∃ E : En, E = ⟨((i + 1 : Nat) : Int), p.cls, p.fam, ws, wc, (p.wl.take 4).map nmI⟩ := ⟨_, rfl⟩
    have hEv : evE E = mkEV i p := by rw [hE]; rfl
    have hE2 : SVL E.ws E.wc E.wl ∧ E.wl.length ≤ 4 := by rw [hE]; exact ⟨hvw, hW4⟩
    have hp : Hp w [] w9 ([ownL eS 9 1 E.ws E.wc E.wl, blk pb 6 (frOf (eE E)) 41] ++ ([blk b4 13 (frOf (dB xN 2 sP PS.length cP)) 32, ownL eP 52 2 sP cP PS, blk b2 13 (frOf (dB ⟨#[]⟩ 0 none 0 0)) 32, blk b1 2 (frOf [.slice sp lp.length cp, .slice se le.length ce]) 25, ownL eE 41 6 s c l] ++ rowsW l)) := by
      rw [hE]
      exact hp
    clear hE hvw hW4 hWe hjt hj hj4
    (repeat (first | (with_reducible first | apply WP_region | apply thenQ_n | apply thenQ_exit | apply WP_exit) | ((with_reducible apply inBlk_same); exact rfl) | (apply wlp; ((first | apply pv_move | (apply pf_loadb; exact rfl)) <;> (first | exact rfl | exact hp.agg_blk 1 rfl rfl)); (first | exact fS rfl | exact fA6 rfl))))
    (apply wls; exact sf_slice hp rfl rfl rfl rfl rfl rfl rfl; rintro _ w14 ⟨nb, rfl, hp⟩)
    (apply wls; exact sf_app1 eE l E hp 7 0 rfl rfl rfl rfl rfl rfl (fun _ => rfl) rfl rfl rfl hvl rfl rfl (by omega); rintro _ w15 ⟨s2, c2, rfl, hv2, hp⟩)
    have hp := hp.tail
    have hp := hp.dropAt 1
    have hp : Hp w [] w15 ([blk b4 13 (frOf (dB xN 2 sP PS.length cP)) 32, ownL eP 52 2 sP cP PS, blk b2 13 (frOf (dB ⟨#[]⟩ 0 none 0 0)) 32, blk b1 2 (frOf [.slice sp lp.length cp, .slice se le.length ce]) 25, ownL eE 41 6 s2 c2 (l ++ [E])] ++ rowsW (l ++ [E])) := by
      rw [rowsW_snoc, ← List.append_assoc]
      exact hp.perm (List.perm_append_singleton _ _).symm
    (repeat (first | (with_reducible first | apply WP_region | apply wpl_nil | apply thenQ_n | apply inBlk_n) | (apply wlp; (first | apply pv_move | apply pv_assign); (first | exact fI rfl | exact fS rfl))))
    (apply wlp; (exact pv_add rfl rfl); exact int_eq (b := ((i + 1 : Nat) : Int)) (by rw [i64_in (by omega) (by omega)]; omega))
    (repeat (first | (with_reducible first | apply wpl_nil | apply thenQ_n) | (apply wlp; apply pv_assign; exact fI rfl)))
    refine ⟨(i + 1, s2, c2, l ++ [E]), put_self (put_self (Same.eq (by repeat (first | exact Same.hav | exact Same.refl | refine Same.put rfl ?_ | refine Same.havs rfl ?_))) rfl) rfl, ⟨by dsimp only; omega, by dsimp only; omega, hv2, by dsimp only; rw [List.length_append, hll]; rfl, ?_, ?_, hp⟩, by dsimp only; omega⟩
    · dsimp only
      rw [hmap2, List.map_append]
      simp [hEv]
    · dsimp only
      intro e he
      rcases List.mem_append.1 he with he | he
      · exact hrw e he
      · rw [List.mem_singleton.1 he]
        exact hE2
  simp only [Bool.and_eq_false_iff, decide_eq_false_iff_not] at hlt
  have hTe : (le.take 8).take i = le.take 8 := List.take_of_length_le (by rw [List.length_take]; omega)
  rw [hTe] at hmap
  clear hlt hTe
  (repeat (first | (with_reducible first | apply WP_seq | apply WP_region | apply thenQ_n | apply thenQ_exit | apply WP_exit) | ((with_reducible apply inBlk_same); exact rfl) | (apply wlp; ((first | apply pv_move | (apply pf_loadb; exact rfl)) <;> (first | exact rfl | exact hp.agg_blk 0 rfl rfl)); (first | exact fS rfl | exact fA13 rfl))))
  (apply wls0; exact sstore13 hp 2 rfl rfl rfl rfl (sizeTy_ok rfl) rfl; rintro _ w7 ⟨rfl, hp⟩)
  have hp := hp.norm 2 (dB xN 2 sP PS.length cP) rfl rfl
  (repeat (first | (with_reducible first | apply wpl_nil | apply thenQ_n | apply WP_ret) | (apply wlp; apply pv_assign; exact fS rfl)))
  refine ret_cell2 rfl rfl rfl rfl rfl (hp.agg_blk 2 rfl rfl) ⟨_, rfl, sP, cP, s, c, l, rfl, ownL_At hp 1 rfl hvP (fun _ => rfl), ⟨ownL_At hp 4 rfl hvl (fun _ => rfl), fun e he => ?_, fun e he => by have := (hrw e he).2; omega⟩, fun e he => (hrw e he).1.cap, hmap, hvl.cap, hp.keeps⟩
  refine ownL_mem (e := 9) hp ?_ (hrw e he).1 (fun _ => rfl)
  exact List.mem_append_right [_, _, _, _, _] (List.mem_map_of_mem (f := fun e : En => ownL eS 9 1 e.ws e.wc e.wl) he)
end Go.Proofs.YtfjbioghpgmkiaaGreatDoor
/- places.Odds; conditions: a ballot of at most 7 entrants that lies in memory, for whose number of entrants the chain of orders is checked. -/
namespace Go.Proofs.YtfjbioghpgmkiaaGreatDoor
open Go.Eng Go.Dig

/-- from each order one comes to the next one -/
structure Chain (n : Nat) : Prop where
  zero : ordN n 0 = idn n
  next : ∀ t, t < fact n → adv (ordN n t) = if t + 1 < fact n then some (ordN n (t + 1)) else none
  ok : ∀ t, t < fact n → isO n (ordN n t) = true
/-- the column of a place -/
def colO (m : Nat) (T : List (ByteArray × Int)) (a : ByteArray) : Option Int := if a = noN then some m else (T.findIdx? fun p => decide (p.1 = a)).map fun i => (i : Int)
def colI (ps : List (ByteArray × Int)) (a : ByteArray) : Nat := ((colO ps.length ps a).getD 0).toNat
theorem colO_nil (m : Nat) : (fun x => if x = noN then some (Value.int .i64 (m : Int)) else none) = mF (colO m []) := by
  funext a
  unfold mF colO
  by_cases h : a = noN
  · rw [if_pos h, if_pos h]; rfl
  · rw [if_neg h, if_neg h]; rfl
theorem colO_snoc (m : Nat) (T : List (ByteArray × Int)) (p : ByteArray × Int) (a : ByteArray) : colO m (T ++ [p]) a = if (colO m T p.1).isSome = false ∧ a = p.1 then some (T.length : Int) else colO m T a := by
  unfold colO
  by_cases ha : a = noN
  · rw [if_pos ha, if_pos ha]
    rw [if_neg]
    rintro ⟨h1, h2⟩
    rw [if_pos (h2 ▸ ha)] at h1
    cases h1
  · rw [if_neg ha, if_neg ha, List.findIdx?_append]
    by_cases hp : a = p.1
    · subst hp
      rw [if_neg ha]
      cases h : T.findIdx? fun q => decide (q.1 = p.1) with
      | none => simp
      | some i => simp
    · rw [if_neg (fun h => hp h.2)]
      cases h : T.findIdx? fun q => decide (q.1 = a) with
      | none =>
        have : ¬ p.1 = a := fun e => hp e.symm
        simp [this]
      | some i => simp
theorem colI_lt {ps : List (ByteArray × Int)} {a : ByteArray} (_h : a = noN ∨ (stO ps a).isSome = true) : colI ps a < ps.length + 1 ∧ (colO ps.length ps a).getD 0 = (colI ps a : Int) := by
  have h0 : 0 ≤ (colO ps.length ps a).getD 0 ∧ (colO ps.length ps a).getD 0 ≤ ps.length := by
    unfold colO
    by_cases ha : a = noN
    · rw [if_pos ha]
      exact ⟨Int.natCast_nonneg _, Int.le_refl _⟩
    · rw [if_neg ha]
      cases hf : ps.findIdx? fun p => decide (p.1 = a) with
      | none => exact ⟨Int.le_refl _, Int.natCast_nonneg _⟩
      | some i =>
        have := (List.findIdx?_eq_some_iff_getElem.1 hf).1
        constructor
        · exact Int.natCast_nonneg _
        · show (i : Int) ≤ _
          omega
  unfold colI
  constructor <;> omega
theorem asg_place {l : List En} {ps : List (ByteArray × Int)} : ∀ (T : List Int) (S : AS), (∀ w, (S.1 w).getD 0 ≤ (stO ps w).getD 0) → (∀ y ∈ S.2, y = noN ∨ (stO ps y).isSome = true) → ∀ y ∈ (T.foldl (stepA l) S).2, y = noN ∨ (stO ps y).isSome = true
  | [], S, _, h => h
  | k :: T, S, h0, h => by
    rw [List.foldl_cons]
    refine asg_place T _ (fun w => Int.le_trans (stepA_le l S k w) (h0 w)) ?_
    cases hf : (wsh l k).find? (avl S.1) with
    | none => rw [stepA_none hf]; exact h
    | some w0 =>
      rw [stepA_some hf]
      intro y hy
      have hy : y ∈ S.2.set k.toNat w0 := hy
      rcases List.mem_or_eq_of_mem_set hy with hy | hy
      · exact h y hy
      · subst hy
        have ha := List.find?_some hf
        unfold avl at ha
        have ha : 0 < (S.1 y).getD 0 := by simpa using ha
        have := h0 y
        cases hs : stO ps y with
        | none => rw [hs, Option.getD_none] at this; omega
        | some v => exact .inr rfl
theorem asg_ok (l : List En) (ps : List (ByteArray × Int)) (ord : List Int) : ∀ y ∈ asg l ps ord, y = noN ∨ (stO ps y).isSome = true := by
  refine asg_place (trn l ord) (asg0 l ps) (fun w => Int.le_refl _) ?_
  intro y hy
  exact .inl (List.eq_of_mem_replicate hy)
theorem asg_len (l : List En) (ps : List (ByteArray × Int)) (ord : List Int) : (asg l ps ord).length = l.length := by
  unfold asg
  rw [foldA_len]
  simp [asg0]
theorem xa_ok (l : List En) (ps : List (ByteArray × Int)) (ord : List Int) (k : Nat) : xa (asg l ps ord) k = noN ∨ (stO ps (xa (asg l ps ord) k)).isSome = true := by
  unfold xa
  rw [Int.toNat_natCast]
  cases h : (asg l ps ord)[k]? with
  | none => exact .inl rfl
  | some y => exact asg_ok l ps ord y (List.mem_of_getElem? h)
/-- the column in which an entrant is counted at an order -/
def colG (l : List En) (ps : List (ByteArray × Int)) (o : List Int) (i : Nat) : Nat := colI ps (xa (asg l ps o) i)

/-! the table of counts -/
def cntG (g : List Int → Nat → Nat) (os : List (List Int)) (i j : Nat) : Nat := os.countP fun o => decide (g o i = j)
def rowC (m : Nat) (g : List Int → Nat → Nat) (os : List (List Int)) (i : Nat) : List Int := (List.range (m + 1)).map fun j => (cntG g os i j : Int)
def mtx (n m : Nat) (g : List Int → Nat → Nat) (os : List (List Int)) (o : List Int) (k : Nat) : List (List Int) := (List.range n).map fun i => rowC m g (if i < k then os ++ [o] else os) i
theorem rowC_len (m : Nat) (g : List Int → Nat → Nat) (os : List (List Int)) (i : Nat) : (rowC m g os i).length = m + 1 := by simp [rowC]
theorem rowC_get {m : Nat} {g : List Int → Nat → Nat} {os : List (List Int)} {i j : Nat} (hj : j < m + 1) : (rowC m g os i)[j]? = some (cntG g os i j : Int) := by
  unfold rowC
  rw [List.getElem?_map, List.getElem?_range hj]
  rfl
theorem cntG_snoc (g : List Int → Nat → Nat) (os : List (List Int)) (o : List Int) (i j : Nat) : cntG g (os ++ [o]) i j = cntG g os i j + if g o i = j then 1 else 0 := by
  unfold cntG
  rw [List.countP_append, List.countP_cons, List.countP_nil]
  by_cases h : g o i = j <;> simp [h]
theorem cntG_le (g : List Int → Nat → Nat) (os : List (List Int)) (i j : Nat) : cntG g os i j ≤ os.length := List.countP_le_length
theorem rowC_step {m : Nat} {g : List Int → Nat → Nat} {os : List (List Int)} {o : List Int} {i : Nat} (hg : g o i < m + 1) : (rowC m g os i).set (g o i) ((cntG g os i (g o i) + 1 : Nat) : Int) = rowC m g (os ++ [o]) i := by
  apply List.ext_getElem?
  intro j
  rw [List.getElem?_set, rowC_len]
  by_cases hj : j < m + 1
  · rw [rowC_get hj, rowC_get hj, cntG_snoc]
    by_cases h : g o i = j
    · subst h
      rw [if_pos rfl, if_pos hg, if_pos rfl]
    · rw [if_neg h, if_neg h]
      rfl
  · rw [if_neg (by omega), List.getElem?_eq_none (by rw [rowC_len]; omega), List.getElem?_eq_none (by rw [rowC_len]; omega)]
theorem mtx_len (n m : Nat) (g : List Int → Nat → Nat) (os : List (List Int)) (o : List Int) (k : Nat) : (mtx n m g os o k).length = n := by simp [mtx]
theorem mtx_get {n m : Nat} {g : List Int → Nat → Nat} {os : List (List Int)} {o : List Int} {k i : Nat} (hi : i < n) : (mtx n m g os o k)[i]? = some (rowC m g (if i < k then os ++ [o] else os) i) := by
  unfold mtx
  rw [List.getElem?_map, List.getElem?_range hi]
  rfl
theorem mtx_step {n m : Nat} {g : List Int → Nat → Nat} {os : List (List Int)} {o : List Int} {k : Nat} (hk : k < n) : (mtx n m g os o k).set k (rowC m g (os ++ [o]) k) = mtx n m g os o (k + 1) := by
  apply List.ext_getElem?
  intro i
  rw [List.getElem?_set, mtx_len]
  by_cases hi : i < n
  · rw [mtx_get hi, mtx_get hi]
    by_cases h : k = i
    · subst h
      rw [if_pos rfl, if_pos hk, if_pos (by omega)]
    · rw [if_neg h]
      by_cases h2 : i < k
      · rw [if_pos h2, if_pos (by omega)]
      · rw [if_neg h2, if_neg (by omega)]
  · rw [if_neg (by omega), List.getElem?_eq_none (by rw [mtx_len]; omega), List.getElem?_eq_none (by rw [mtx_len]; omega)]
theorem mtx_done (n m : Nat) (g : List Int → Nat → Nat) (os : List (List Int)) (o o' : List Int) : mtx n m g os o n = mtx n m g (os ++ [o]) o' 0 := by
  unfold mtx
  apply List.map_congr_left
  intro i hi
  have := List.mem_range.1 hi
  rw [if_pos this, if_neg (by omega)]
theorem mtx_zero' (n m : Nat) (g : List Int → Nat → Nat) (os : List (List Int)) (o o' : List Int) : mtx n m g os o 0 = mtx n m g os o' 0 := by
  unfold mtx
  apply List.map_congr_left
  intro i _
  rw [if_neg (by omega), if_neg (by omega)]
theorem mtx_zero (n m : Nat) (g : List Int → Nat → Nat) (o : List Int) : mtx n m g [] o 0 = List.replicate n (List.replicate (m + 1) 0) := by
  unfold mtx
  apply List.ext_getElem
  · simp
  · intro i h1 h2
    simp only [List.getElem_map, List.getElem_replicate]
    rw [if_neg (by omega)]
    unfold rowC cntG
    apply List.ext_getElem
    · simp
    · intro j h3 h4
      simp
def osT (n t : Nat) : List (List Int) := (List.range t).map (ordN n)
theorem osT_zero (n : Nat) : osT n 0 = [] := rfl
theorem osT_snoc (n t : Nat) : osT n (t + 1) = osT n t ++ [ordN n t] := by simp [osT, List.range_succ]
theorem osT_len (n t : Nat) : (osT n t).length = t := by simp [osT]
theorem fact7 : fact 7 = 5040 := rfl
def rat (a b : Nat) : Nat × Nat := (a / Nat.gcd a b, b / Nat.gcd a b)
/-- the chances of a list of entrants -/
def oddsR (l : List En) (ps : List (ByteArray × Int)) (i : Nat) : List (Nat × Nat) := (List.range (ps.length + 1)).map fun j => rat (cntG (colG l ps) (osT l.length (fact l.length)) i j) (fact l.length)
theorem oddsR_eq (l : List En) (ps : List (ByteArray × Int)) (i : Nat) : oddsR l ps i = (List.range (ps.length + 1)).map fun j => rat (cntG (colG l ps) (osT l.length (fact l.length)) i j) (fact l.length) := rfl
def oddsL (l : List En) (ps : List (ByteArray × Int)) : List (List (Nat × Nat)) := (List.range l.length).map (oddsR l ps)

/-! rows in memory -/
def eOB (m : Nat) : Option Nat → List Value
  | none => [.slice none 0 0]
  | some b => [.slice (some ⟨b, 0, none⟩) (m + 1) (m + 1)]
theorem eOB_len (m : Nat) (x : Option Nat) : (eOB m x).length = 1 := by cases x <;> rfl
structure QRow where
  s : Option Addr
  c : Nat
  l : List (Nat × Nat)
def eQR (r : QRow) : List Value := [.slice r.s r.l.length r.c]
def zQ : QRow := ⟨none, 0, []⟩
def rowE (m b : Nat) (z : List Int) : Ent := ownL eI 3 1 (some ⟨b, 0, none⟩) (m + 1) z
def rowsC (m : Nat) (rb : List Nat) (M : List (List Int)) : List Ent := List.zipWith (rowE m) rb M
theorem rowsC_nil (m : Nat) : rowsC m [] [] = [] := rfl
theorem rowsC_get {m : Nat} {rb : List Nat} {M : List (List Int)} {i b : Nat} {z : List Int} (hb : rb[i]? = some b) (hz : M[i]? = some z) : (rowsC m rb M)[i]? = some (rowE m b z) := by
  unfold rowsC
  rw [List.getElem?_zipWith, hb, hz]
theorem rowsC_set {m : Nat} {rb : List Nat} {M : List (List Int)} {i b : Nat} {z : List Int} (hb : rb[i]? = some b) : (rowsC m rb M).set i (rowE m b z) = rowsC m rb (M.set i z) := by
  unfold rowsC
  apply List.ext_getElem?
  intro j
  rw [List.getElem?_set, List.getElem?_zipWith, List.getElem?_zipWith, List.getElem?_set, List.length_zipWith]
  by_cases h : i = j
  · subst h
    rw [if_pos rfl, if_pos rfl, hb]
    have := (List.getElem?_eq_some_iff.1 hb).1
    by_cases h2 : i < M.length
    · rw [if_pos (by omega), if_pos h2]
    · rw [if_neg (by omega), if_neg h2]
  · rw [if_neg h, if_neg h]
theorem rowsC_snoc {m : Nat} {rb : List Nat} {M : List (List Int)} {b : Nat} {z : List Int} (h : rb.length = M.length) : rowsC m (rb ++ [b]) (M ++ [z]) = rowsC m rb M ++ [rowE m b z] := by
  unfold rowsC
  rw [List.zipWith_append h]
  rfl
def rowsQ (rs : List QRow) : List Ent := rs.map fun r => ownL eQ 55 3 r.s r.c r.l
theorem rowsQ_snoc (rs : List QRow) (r : QRow) : rowsQ (rs ++ [r]) = rowsQ rs ++ [ownL eQ 55 3 r.s r.c r.l] := by simp [rowsQ]
theorem part_set {α : Type} {A : List α} {n i : Nat} {z x : α} (hA : A.length = i) (h : i < n) : (A ++ List.replicate (n - i) z).set i x = (A ++ [x]) ++ List.replicate (n - (i + 1)) z := by
  obtain ⟨k, hk⟩ : ∃ k, n - i = k + 1 := ⟨n - i - 1, by omega⟩
  rw [List.set_append_right _ _ (by omega), hA, Nat.sub_self, hk, show n - (i + 1) = k from by omega, List.replicate_succ]
  simp
theorem part_split {α : Type} {A : List α} {n i : Nat} {z : α} (h : i < n) : A ++ List.replicate (n - i) z = (A ++ [z]) ++ List.replicate (n - (i + 1)) z := by
  obtain ⟨k, hk⟩ : ∃ k, n - i = k + 1 := ⟨n - i - 1, by omega⟩
  rw [hk, show n - (i + 1) = k from by omega, List.replicate_succ]
  simp
theorem mid_set {α : Type} {A X : List α} {i : Nat} {z x : α} (hA : A.length = i) : ((A ++ [z]) ++ X).set i x = (A ++ [x]) ++ X := by
  rw [List.append_assoc, List.set_append_right _ _ (by omega), hA, Nat.sub_self, List.append_assoc]
  rfl
theorem mid_get {α : Type} {A X : List α} {i : Nat} {z : α} (hA : A.length = i) : ((A ++ [z]) ++ X)[i]? = some z := by
  rw [List.append_assoc, List.getElem?_append_right (by omega), hA, Nat.sub_self]
  rfl
theorem part_get {α : Type} {A : List α} {n i : Nat} {z : α} (hA : A.length = i) (h : i < n) : (A ++ List.replicate (n - i) z)[i]? = some z := by
  rw [List.getElem?_append_right (by omega), hA, Nat.sub_self, List.getElem?_replicate, if_pos (by omega)]
theorem part_len {α : Type} {A : List α} {n i : Nat} {z : α} (hA : A.length = i) (h : i ≤ n) : (A ++ List.replicate (n - i) z).length = n := by
  rw [List.length_append, List.length_replicate]
  omega
theorem part_done {α : Type} {A : List α} {n : Nat} {z : α} : A ++ List.replicate (n - n) z = A := by
  rw [Nat.sub_self]
  simp

section
variable {α : Type} [DecidableEq α] {K : KeyEnc α} {P : Program} {n : FrK} {w0 w : World} {M : List Nat} {L : List Ent} {F : Fr} {d : Option Tmp} {ty : TypeId} {pos : String} {aft : Array Edge} {g : Option (Nat × Bool)} {x y z : Operand}
theorem st_insert {mt kt et : TypeId} {b : Nat} {f : α → Option Value} {a : α} {v : Value} (hp : Hp w0 M w L) (i : Nat) (hi : L[i]? = some (mapE K b f)) (hx : ev n F x = .map (some b)) (hy : ev n F y = K.enc a) (hv : ev n F z = v)
    (hm : P.underlying mt = some (.map kt et)) (hk : P.underlying kt = some K.kd) :
    StepF P n ⟨d, .insert mt x y z, ty, pos, aft, g⟩ F w (fun u w' => u = undef ∧ Hp w0 M w' (L.set i (mapE K b (fun x => if x = a then some v else f x)))) := by
  obtain ⟨o, ho, hf⟩ := hp.has i _ hi b rfl
  obtain ⟨w', o', hr, hk', hb', hf'⟩ := run_put (P := P) K hm hk ho hf a v
  refine stepF_skip (w' := w') ?_ ⟨rfl, hp.upd hi (by simpa [mapE] using hk') ?_⟩
  · simp [execOp, hx, hy, hv, hr]
  · intro b1 hb1
    have : b1 = b := by simpa [mapE, eq_comm] using hb1
    subst this
    exact ⟨.inl rfl, o', hb', hf'⟩
end

attribute [local irreducible] PV StepF wpl wpd WP Ret
attribute [local irreducible] Fit srt tl fl seenL stO isO trn fact colO mtx osT rowsC rowC cntG ordN oddsR

set_option maxHeartbeats 4000000 in
theorem p16 (nm : ByteArray) (ps : List (ByteArray × Int)) (l : List En) (s sP : Option Addr) (c cP : Nat) (w : World) (hE : EAt w s l) (hP : SlAt w 2 eP sP ps) (h7 : l.length ≤ 7) (hps : ps.length ≤ 12) (hpm : ∀ p ∈ ps, p.2 ≤ 9223372036854775807) (hch : Chain l.length) :
    Ret Tryz.prog 16 [.agg (dB nm 2 sP ps.length cP).toArray, .slice s l.length c] w (fun v w' => ∃ so co rs, v = .tuple #[.slice so rs.length co, .int .i64 0] ∧ SlAt w' 1 eQR so rs ∧ (∀ r ∈ rs, SlAt w' 3 eQ r.s r.l) ∧ rs.map QRow.l = oddsL l ps ∧ Keeps [] w w') := by
  have hfp := fact_pos l.length
  have hfb : fact l.length ≤ 5040 := Nat.le_trans (fact_le h7) (Nat.le_of_eq fact7)
  refine Ret.of_WP Tryz.func16 rfl Tryz.ntmps16 rfl ?_
  have hp := Hp.start (M := []) (w := w)
  (repeat (with_reducible first | apply WP_seq | apply WP_region))
  (apply wls; exact sbox13 hp rfl; rintro _ w1 ⟨b2, rfl, hp⟩)
  have hp : Hp w [] w1 [blk b2 13 (frOf (dB nm 2 sP ps.length cP)) 32] := hp
  (repeat (first | (with_reducible first | apply WP_seq | apply WP_region | apply wpl_nil | apply thenQ_n) | (apply wlp; ((first | apply pv_assign | apply pf_field | (apply pf_load; exact rfl) | (apply pv_neq; (first | exact rfl | exact ev_sel rfl (by assumption)))) <;> (first | exact rfl | exact hp.cell 0 rfl rfl)); (first | exact fI rfl | exact fB rfl | exact fP rfl | exact fS rfl))))
  refine WP_cond_nd rfl (fun h => absurd rfl h) (fun _ => ?_)
  (repeat (first | (with_reducible first | apply WP_seq | apply WP_region | apply wpl_nil | apply thenQ_n | apply WP_skip) | ((first | apply wlp | (apply wlg; exact rfl; exact rfl)); (intros; ((first | apply pv_move | apply pf_field | (apply pf_load; exact rfl) | (apply pf_len; exact rfl) | exact pv_or rfl rfl rfl | apply pv_gtr) <;> (first | exact rfl | exact ev_sel rfl (by assumption) | exact hp.cell 0 rfl rfl))); (intros; (first | exact fI rfl | exact fB rfl | exact fP rfl | exact fS rfl)))))
  refine WP_cond rfl (fun h => ?_) (fun _ => ?_)
  · exfalso
    simp only [Bool.or_eq_true, decide_eq_true_eq] at h
    omega
  (repeat (with_reducible first | apply WP_seq | apply WP_region | apply thenQ_n | apply WP_skip))
  (apply wls; exact st_makemap kStr hp; rintro _ w2 ⟨cb, rfl, hp⟩)
  (repeat (apply wlp; ((first | apply pf_field | (apply pf_load; exact rfl) | (apply pf_len; exact rfl)) <;> (first | exact rfl | exact hp.cell 1 rfl rfl)); (first | exact fI rfl | exact fP rfl | exact fS rfl)))
  (apply wls0; exact st_insert (K := kStr) (a := noN) (v := .int .i64 (ps.length : Int)) hp 0 rfl rfl rfl rfl mp90.1 mp90.2.1; rintro _ w3 ⟨rfl, hp⟩)
  have hp : Hp w [] w3 [mapE kStr cb (fun x => if x = noN then some (Value.int .i64 (ps.length : Int)) else none), blk b2 13 (frOf (dB nm 2 sP ps.length cP)) 32] := hp
  rw [colO_nil] at hp
  (repeat (first | (with_reducible first | apply WP_seq | apply WP_block | apply WP_region | apply wpl_nil | apply thenQ_n) | (apply wlp; ((first | apply pv_move | apply pv_assign | apply pf_field | (apply pf_load; exact rfl) | (apply pf_len; exact rfl)) <;> (first | exact rfl | exact hp.cell 1 rfl rfl)); (first | exact fI rfl | exact fP rfl | exact fS rfl | exact fM rfl))))
  refine WP_loopS [7, 8, 9, 10, 45, 46, 47, 48, 49, 50, 51, 52, 53, 54, 55, 56, 57, 58, 59, 60, 61, 62, 63] (fun (i : Nat) F => F.put 45 (.int .i64 (i : Int))) (fun i w' => i ≤ ps.length ∧ Hp w [] w' [mapE kStr cb (mF (colO ps.length (ps.take i))), blk b2 13 (frOf (dB nm 2 sP ps.length cP)) 32]) (fun i => ps.length - i) 0 (put_self (Same.eq .refl) rfl) ⟨Nat.zero_le _, hp⟩ ?_
  (repeat clear hp)
  rintro u i w4 ⟨hi, hp⟩
  (repeat (first | (with_reducible first | apply WP_seq | apply WP_region | apply wpl_nil | apply thenQ_n) | (apply wlp; (apply pv_lss <;> exact rfl); exact fB rfl)))
  refine WP_cond_d rfl (fun h => ?_) (fun h => ?_)
  · have hlt : i < ps.length := by omega
    obtain ⟨b0, o0, hs0, hc0⟩ := hP.base (by omega)
    have hci := hc0 i _ (List.getElem?_eq_getElem hlt)
    have htk := List.take_succ_eq_append_getElem hlt
    have hsn := fun a => colO_snoc ps.length (ps.take i) ps[i] a
    rw [← htk] at hsn
    have htl : (ps.take i).length = i := by rw [List.length_take]; omega
    rw [htl] at hsn
    generalize ps[i] = p at hci hsn
    obtain ⟨pn, pv⟩ := p
    clear htk
    generalize colO ps.length (ps.take i) = f at hp hsn
    (repeat (first | (with_reducible first | apply WP_seq | apply WP_block | apply WP_region | apply thenQ_n | apply WP_skip) | (apply wlp; ((first | apply pv_move | (apply pf_loadb; exact rfl) | (apply pf_index; exact rfl)) <;> (first | exact rfl | assumption)); (first | exact fI rfl | exact fP rfl))))
    (apply wlp; exact pf_loads (vs := eP (pn, pv)) rfl rfl rfl rfl (fun j v hv => hp.old0 (hci j v hv)); exact fA2 rfl)
    (apply wls; exact salloc2 hp (zeroTy_ok rfl); rintro _ w5 ⟨pb, rfl, hp⟩)
    (repeat (apply wlp; apply pv_assign; exact fI rfl))
    (apply wls0; exact sstore2 hp 0 rfl rfl rfl rfl (sizeTy_ok rfl) rfl; rintro _ w6 ⟨rfl, hp⟩)
    have hp := hp.norm 0 [.string pn, .int .i64 pv] rfl rfl
    have hp : Hp w [] w6 [blk pb 2 (frOf [.string pn, .int .i64 pv]) 52, mapE kStr cb (mF f), blk b2 13 (frOf (dB nm 2 sP ps.length cP)) 32] := hp
    (repeat (first | (with_reducible first | apply WP_seq | apply WP_region | apply wpl_nil | apply thenQ_n) | (apply wlp; ((first | apply pv_move | apply pf_field | (apply pf_load; exact rfl)) <;> (first | exact rfl | exact hp.cell 0 rfl rfl)); (first | exact fP rfl | exact fT rfl | exact fM rfl))))
    (apply wlp; exact pv_lookup_ok (K := kStr) (a := pn) hp 1 rfl rfl rfl mp90.1 mp90.2.1 mp90.2.2; exact fU rfl)
    rw [mF_some, mF_look]
    (repeat (first | (with_reducible first | apply WP_seq | apply WP_region | apply wpl_nil | apply thenQ_n) | (apply wlp; ((first | apply pv_move | apply pv_assign | apply pv_not | apply pv_extract) <;> exact rfl); (first | exact fI rfl | exact fB rfl | exact fU rfl))))
    refine WP_cond rfl (fun h2 => ?_) (fun h2 => ?_)
    · have h2 : (f pn).isSome = false := by simpa using h2
      (repeat (first | with_reducible apply WP_region | (apply wlp; ((first | apply pv_move | apply pf_field | (apply pf_load; exact rfl)) <;> (first | exact rfl | exact hp.cell 0 rfl rfl)); (first | exact fI rfl | exact fP rfl | exact fT rfl | exact fM rfl))))
      (apply wls0; exact st_mapput (K := kStr) (a := pn) (v := .int .i64 (i : Int)) hp 1 rfl rfl rfl rfl mp90.1 mp90.2.1; rintro _ w7 ⟨rfl, hp⟩)
      have hfe : (fun x => if x = pn then some (Value.int .i64 (i : Int)) else mF f x) = mF (colO ps.length (ps.take (i + 1))) := by
        funext a
        unfold mF
        rw [hsn a]
        by_cases ha : a = pn
        · rw [if_pos ha, if_pos ⟨h2, ha⟩]; rfl
        · rw [if_neg ha, if_neg (fun h => ha h.2)]
      have hp : Hp w [] w7 [blk pb 2 (frOf [.string pn, .int .i64 pv]) 52, mapE kStr cb (fun x => if x = pn then some (Value.int .i64 (i : Int)) else mF f x), blk b2 13 (frOf (dB nm 2 sP ps.length cP)) 32] := hp
      rw [hfe] at hp
      (repeat (with_reducible first | apply WP_region | apply wpl_nil | apply thenQ_n | apply inBlk_n))
      (apply wlp; (exact pv_add rfl rfl); exact int_eq (b := ((i + 1 : Nat) : Int)) (by rw [i64_in (by omega) (by omega)]; omega))
      (repeat (first | (with_reducible first | apply wpl_nil | apply thenQ_n) | (apply wlp; apply pv_move; exact fI rfl)))
      exact ⟨i + 1, put_self (Same.eq (by repeat (first | exact Same.hav | exact Same.refl | refine Same.put rfl ?_ | refine Same.havs rfl ?_))) rfl, ⟨by omega, hp.tail⟩, by omega⟩
    · have hfe : f = colO ps.length (ps.take (i + 1)) := by
        funext a
        rw [hsn a, if_neg]
        rintro ⟨h3, _⟩
        simp at h2
        exact absurd h2 (by simpa using h3)
      rw [hfe] at hp
      (repeat (with_reducible first | apply WP_region | apply thenQ_n | apply inBlk_n | apply WP_skip))
      (apply wlp; (exact pv_add rfl rfl); exact int_eq (b := ((i + 1 : Nat) : Int)) (by rw [i64_in (by omega) (by omega)]; omega))
      (repeat (first | (with_reducible first | apply wpl_nil | apply thenQ_n) | (apply wlp; apply pv_move; exact fI rfl)))
      exact ⟨i + 1, put_self (Same.eq (by repeat (first | exact Same.hav | exact Same.refl | refine Same.put rfl ?_ | refine Same.havs rfl ?_))) rfl, ⟨by omega, hp.tail⟩, by omega⟩
  have e : ps.take i = ps := List.take_of_length_le (by omega)
  rw [e] at hp
  clear e hi h
  obtain ⟨m, hm⟩ : ∃ m, m = ps.length := ⟨_, rfl⟩
  (repeat (first | (with_reducible first | apply WP_seq | apply WP_region | apply thenQ_n | apply thenQ_exit | apply WP_exit) | ((with_reducible apply inBlk_same); exact rfl) | (apply wlp; ((first | apply pv_move | (apply pf_len; exact rfl)) <;> exact rfl); (first | exact fI rfl | exact fS rfl))))
  (apply wls; exact sf_make (eOB m) none hp rfl rfl rfl rfl rfl rfl rfl (by omega) rfl; rintro _ w5 ⟨ob, rfl, hvo, hp⟩)
  have hp : Hp w [] w5 ([ownL (eOB m) 30 1 (some ⟨ob, 0, none⟩) l.length (([] : List Nat).map some ++ List.replicate (l.length - 0) none), mapE kStr cb (mF (colO ps.length ps)), blk b2 13 (frOf (dB nm 2 sP ps.length cP)) 32] ++ rowsC m [] []) := by
    rw [rowsC_nil]
    exact hp
  clear hvo
  (repeat (first | (with_reducible first | apply WP_seq | apply WP_block | apply WP_region | apply wpl_nil | apply thenQ_n) | (apply wlp; ((first | apply pv_move | apply pv_assign | (apply pf_len; exact rfl)) <;> exact rfl); (first | exact fI rfl | exact fS rfl))))
  refine WP_loop2 [12, 69, 70, 71, 72, 73, 74, 75, 76, 77, 78, 79, 80] (fun (i : Nat) (_rb : List Nat) F => F.put 69 (.int .i64 (i : Int))) (fun i rb w' => i ≤ l.length ∧ rb.length = i ∧ Hp w [] w' ([ownL (eOB m) 30 1 (some ⟨ob, 0, none⟩) l.length (rb.map some ++ List.replicate (l.length - i) none), mapE kStr cb (mF (colO ps.length ps)), blk b2 13 (frOf (dB nm 2 sP ps.length cP)) 32] ++ rowsC m rb (List.replicate i (List.replicate (m + 1) 0)))) (fun i _ => l.length - i) 0 [] (put_self (Same.eq .refl) rfl) ⟨Nat.zero_le _, rfl, hp⟩ ?_
  (repeat clear hp)
  rintro u i rb w6 ⟨hi, hrb, hp⟩
  have hrb1 : (rb.map some).length = i := by rw [List.length_map]; exact hrb
  have hol := part_len (z := (none : Option Nat)) hrb1 hi
  have hvo : SVL (some ⟨ob, 0, none⟩) l.length (rb.map some ++ List.replicate (l.length - i) none) := .inr ⟨ob, l.length, by rw [hol], by rw [hol]; exact Nat.le_refl _, by unfold maxLen; omega⟩
  (repeat (first | (with_reducible first | apply WP_seq | apply WP_region | apply wpl_nil | apply thenQ_n) | (apply wlp; (apply pv_lss <;> exact rfl); exact fB rfl)))
  refine WP_cond_d rfl (fun h => ?_) (fun h => ?_)
  · have hlt : i < l.length := by omega
    (repeat (first | (with_reducible first | apply WP_seq | apply WP_block | apply WP_region | apply wpl_nil | apply thenQ_n | apply WP_skip) | (apply wlp; ((first | apply pv_move | apply pv_assign | apply pf_field | (apply pf_load; exact rfl) | (apply pf_len; exact rfl)) <;> (first | exact rfl | exact hp.cell 2 rfl rfl)); (first | exact fI rfl | exact fP rfl | exact fS rfl))))
    (apply wlp; (exact pv_add rfl rfl); exact int_eq (b := ((m + 1 : Nat) : Int)) (by rw [i64_in (by omega) (by omega)]; omega))
    (apply wls; exact sf_make eI 0 hp rfl rfl rfl rfl rfl rfl rfl (by omega) rfl; rintro _ w7 ⟨gb, rfl, hvg, hp⟩)
    (repeat (apply wlp; ((apply pf_index; exact rfl) <;> (first | exact rfl | assumption)); exact fP rfl))
    (apply wls0; exact st_setL (eOB m) _ i (some gb) hp 1 rfl hvo (by rw [hol]; exact hlt) rfl rfl (eOB_len m) rfl rfl (sizeTy_ok rfl); rintro _ w8 ⟨rfl, hp⟩)
    rw [part_set hrb1 hlt] at hp
    have hp : Hp w [] w8 ([ownL (eOB m) 30 1 (some ⟨ob, 0, none⟩) l.length ((rb ++ [gb]).map some ++ List.replicate (l.length - (i + 1)) none), mapE kStr cb (mF (colO ps.length ps)), blk b2 13 (frOf (dB nm 2 sP ps.length cP)) 32] ++ rowsC m (rb ++ [gb]) (List.replicate (i + 1) (List.replicate (m + 1) 0))) := by
      rw [List.replicate_succ', rowsC_snoc (by rw [List.length_replicate]; exact hrb), List.map_append, ← List.append_assoc]
      exact hp.perm (List.perm_append_singleton _ _).symm
    (repeat (with_reducible first | apply WP_region | apply wpl_nil | apply thenQ_n | apply inBlk_n))
    (apply wlp; (exact pv_add rfl rfl); exact int_eq (b := ((i + 1 : Nat) : Int)) (by rw [i64_in (by omega) (by omega)]; omega))
    (repeat (first | (with_reducible first | apply wpl_nil | apply thenQ_n) | (apply wlp; apply pv_move; exact fI rfl)))
    exact ⟨i + 1, rb ++ [gb], put_self (Same.eq (by repeat (first | exact Same.hav | exact Same.refl | refine Same.put rfl ?_ | refine Same.havs rfl ?_))) rfl, ⟨by omega, by rw [List.length_append, hrb]; rfl, hp⟩, by omega⟩
  obtain rfl : i = l.length := by omega
  clear hi h hrb1 hol hvo
  rw [part_done, ← mtx_zero l.length m (colG l ps) []] at hp
  have hol : (rb.map some).length = l.length := by rw [List.length_map]; exact hrb
  have hvo : SVL (some ⟨ob, 0, none⟩) l.length (rb.map some) := .inr ⟨ob, l.length, by rw [hol], by rw [hol]; exact Nat.le_refl _, by unfold maxLen; omega⟩
  have hog : ∀ (k b : Nat), rb[k]? = some b → (rb.map some)[k]? = some (some b) := fun k b h => by rw [List.getElem?_map, h]; rfl
  have hsw : l ≠ [] → ∀ b o, s = some ⟨b, o, none⟩ → b < w.heap.size := fun h b o e => hE.at_.lt (fun _ => rfl) (by decide) h e
  (repeat (first | (with_reducible first | apply WP_seq | apply WP_region | apply wpl_nil | apply thenQ_n | apply thenQ_exit | apply WP_exit) | ((with_reducible apply inBlk_same); exact rfl) | (apply wlp; ((first | apply pv_move | apply pv_assign | (apply pf_len; exact rfl)) <;> exact rfl); (first | exact fI rfl | exact fS rfl))))
  (apply wls; exact st_call rfl ent40 rfl (p40 l.length _ (by omega)); rintro _ w7 ⟨qb, rfl, hvq, hpo⟩; have hp := hp.join hpo; clear hpo)
  have hp : Hp w [] w7 ([ownL eI 3 1 (some ⟨qb, 0, none⟩) l.length (ordN l.length 0), ownL (eOB m) 30 1 (some ⟨ob, 0, none⟩) l.length (rb.map some), mapE kStr cb (mF (colO ps.length ps)), blk b2 13 (frOf (dB nm 2 sP ps.length cP)) 32] ++ rowsC m rb (mtx l.length m (colG l ps) (osT l.length 0) [] 0)) := by
    rw [osT_zero, hch.zero]
    exact hp
  clear hvq
  (repeat (first | (with_reducible first | apply WP_block | apply wpl_nil | apply thenQ_n) | (apply wlp; apply pv_assign; (first | exact fB rfl | exact fS rfl))))
  refine WP_loop2 [13, 15, 16, 17, 84, 85, 86, 87, 88, 89, 90, 91, 92, 93, 94, 95, 96, 97, 98, 99, 100, 101, 102, 103, 104, 105, 106, 107, 108, 109, 110] (fun (t : Nat) (_z : List Int) F => (F.put 13 (.int .i64 (t : Int))).put 15 (.bool (decide (t < fact l.length))))
    (fun t z w' => t ≤ fact l.length ∧ z.length = l.length ∧ (t < fact l.length → z = ordN l.length t) ∧ Hp w [] w' ([ownL eI 3 1 (some ⟨qb, 0, none⟩) l.length z, ownL (eOB m) 30 1 (some ⟨ob, 0, none⟩) l.length (rb.map some), mapE kStr cb (mF (colO ps.length ps)), blk b2 13 (frOf (dB nm 2 sP ps.length cP)) 32] ++ rowsC m rb (mtx l.length m (colG l ps) (osT l.length t) [] 0))) (fun t _ => fact l.length - t) 0 (ordN l.length 0) (put_self (put_self (Same.eq .refl) rfl) (bool_eq (decide_eq_true hfp).symm)) ⟨Nat.zero_le _, ordN_len _ _, fun _ => rfl, hp⟩ ?_
  (repeat clear hp)
  rintro u t z w8 ⟨ht, hzl, hz, hp⟩
  (repeat (first | (with_reducible first | apply WP_seq | apply WP_region | apply wpl_nil | apply thenQ_n) | (apply wlp; apply pv_move; exact fB rfl)))
  refine WP_cond_d rfl (fun h => ?_) (fun h => ?_)
  · have hz := hz h
    subst hz
    have hO : isO l.length (ordN l.length t) = true := hch.ok t h
    have hnx := hch.next t h
    have hosl := osT_len l.length t
    have hos := osT_snoc l.length t
    generalize osT l.length t = OS at hp hosl hos
    generalize hoo : ordN l.length t = o at hp hO hnx hzl hos
    have hvq : SVL (some ⟨qb, 0, none⟩) l.length o := .inr ⟨qb, l.length, by rw [hzl], by rw [hzl]; exact Nat.le_refl _, by unfold maxLen; omega⟩
    have hso := ownL_At hp 0 rfl hvq (fun _ => rfl)
    (repeat (first | (with_reducible first | apply WP_seq | apply WP_block | apply WP_region | apply thenQ_n | apply WP_skip) | (apply wlp; apply pv_move; exact fI rfl)))
    (apply wlp; (exact pv_add rfl rfl); exact int_eq (b := ((t + 1 : Nat) : Int)) (by rw [i64_in (by omega) (by omega)]; omega))
    (repeat (first | (with_reducible first | apply WP_seq | apply WP_region | apply wpl_nil | apply thenQ_n) | (apply wlp; ((first | apply pv_move | apply pv_assign | (apply pf_loadb; exact rfl)) <;> (first | exact rfl | exact hp.agg_blk 3 rfl rfl)); (first | exact fI rfl | exact fS rfl | exact fA13 rfl))))
    have h39 := p39 nm ps l o s sP (some ⟨qb, 0, none⟩) c cP l.length w8 ⟨hE.at_.keep0 hp.keeps, fun e he => (hE.ws e he).keep0 hp.keeps, hE.len⟩ (hP.keep0 hp.keeps) hso (by omega) (by omega) hpm hO (fun h => by cases h)
    rw [hzl] at h39
    (apply wls; exact st_call rfl ent39 rfl h39; rintro _ w9 ⟨ab, rfl, hva, hpo⟩; have hp := hp.join hpo; clear hpo h39)
    have hal := asg_len l ps o
    have hak : ∀ k, k < l.length → (asg l ps o)[k]? = some (xa (asg l ps o) k) := by
      intro k hk
      unfold xa
      rw [Int.toNat_natCast, List.getElem?_eq_getElem (by omega)]
      rfl
    have hcol : ∀ k : Nat, colG l ps o k < m + 1 ∧ (colO ps.length ps (xa (asg l ps o) k)).getD 0 = (colG l ps o k : Int) := fun k => by rw [hm]; exact colI_lt (xa_ok l ps o k)
    generalize hA : asg l ps o = A at hp hva hal hak hcol
    (repeat (first | (with_reducible first | apply WP_block | apply wpl_nil | apply thenQ_n) | (apply wlp; ((first | apply pv_move | (apply pf_len; exact rfl)) <;> exact rfl); exact fI rfl)))
    refine WP_loopS [16, 17, 94, 95, 96, 97, 98, 99, 100, 101, 102, 103, 104, 105, 106, 107, 108, 109, 110] (fun (k : Nat) F => F.put 94 (.int .i64 (k : Int))) (fun k w' => k ≤ l.length ∧ Hp w [] w' ([ownL eS 9 1 (some ⟨ab, 0, none⟩) l.length A, ownL eI 3 1 (some ⟨qb, 0, none⟩) l.length o, ownL (eOB m) 30 1 (some ⟨ob, 0, none⟩) l.length (rb.map some), mapE kStr cb (mF (colO ps.length ps)), blk b2 13 (frOf (dB nm 2 sP ps.length cP)) 32] ++ rowsC m rb (mtx l.length m (colG l ps) OS o k))) (fun k => l.length - k) 0 (put_self (Same.eq .refl) rfl) ⟨Nat.zero_le _, ?_⟩ ?_
    · have e : mtx l.length m (colG l ps) OS o 0 = mtx l.length m (colG l ps) OS [] 0 := mtx_zero' _ _ _ _ _ _
      rw [e]
      exact hp
    (repeat clear hp)
    rintro u2 k w10 ⟨hk, hp⟩
    (repeat (first | (with_reducible first | apply WP_seq | apply WP_region | apply wpl_nil | apply thenQ_n) | (apply wlp; (apply pv_lss <;> exact rfl); exact fB rfl)))
    refine WP_cond_d rfl (fun h2 => ?_) (fun h2 => ?_)
    · have hkl : k < l.length := by omega
      have hkb : k < rb.length := by omega
      have hck := hak k hkl
      obtain ⟨hgm, hgv⟩ := hcol k
      obtain ⟨bk, hbk⟩ : ∃ bk, rb[k]? = some bk := ⟨_, List.getElem?_eq_getElem hkb⟩
      have hobk := hog k bk hbk
      have hrow := mtx_get (n := l.length) (m := m) (g := colG l ps) (os := OS) (o := o) (k := k) hkl
      rw [if_neg (by omega)] at hrow
      have hent := rowsC_get (m := m) hbk hrow
      have hrl := rowC_len m (colG l ps) OS k
      have hrg := rowC_get (m := m) (g := colG l ps) (os := OS) (i := k) hgm
      have hcl := cntG_le (colG l ps) OS k (colG l ps o k)
      have hst := rowC_step (m := m) (os := OS) (i := k) hgm
      have hms := mtx_step (m := m) (g := colG l ps) (os := OS) (o := o) hkl
      have hrs := rowsC_set (m := m) (M := mtx l.length m (colG l ps) OS o k) (z := rowC m (colG l ps) (OS ++ [o]) k) hbk
      rw [hms] at hrs
      generalize xa A k = pl at hck hgv
      generalize colG l ps o k = j at hgm hgv hrg hcl hst
      generalize cntG (colG l ps) OS k j = cn at hrg hcl hst
      generalize rowC m (colG l ps) OS k = R at hent hrl hrg hst
      have hvr : SVL (some ⟨bk, 0, none⟩) (m + 1) R := .inr ⟨bk, m + 1, by rw [hrl], by rw [hrl]; exact Nat.le_refl _, by unfold maxLen; omega⟩
      (repeat (first | (with_reducible first | apply WP_seq | apply WP_block | apply WP_region | apply thenQ_n | apply WP_skip) | (apply wlp; ((first | apply pv_move | (apply pf_load; exact rfl) | (apply pf_index; exact rfl)) <;> (first | exact rfl | assumption)); (first | exact fI rfl | exact fP rfl))))
      (apply wlp; exact pf_load rfl rfl (own_elem hp 0 rfl hva (fun _ => rfl) hck 0 _ rfl); exact fT rfl)
      (repeat (first | (with_reducible first | apply wpl_nil | apply thenQ_n) | (apply wlp; apply pv_assign; (first | exact fI rfl | exact fT rfl))))
      refine WP_drawS mixed (by kernel_rfl) (fun w' => Hp _ _ w' _) hp.drew ?_
      have hp := hp.drew
      (repeat ((apply wdp; exact rfl); (intro w hp; intros; ((first | apply pv_move | (apply pf_load; exact rfl) | (apply pf_index; exact rfl)) <;> (first | exact rfl | assumption))); (intros; (first | exact fI rfl | exact fP rfl | exact fS rfl))))
      (apply wdp; exact rfl; (intro w hp; exact pf_load rfl rfl (own_elem hp 2 rfl hvo (eOB_len m) hobk 0 _ rfl)); exact fS rfl)
      (repeat ((apply wdp; exact rfl); (intro w hp; intros; apply pv_move); (intros; (first | exact fT rfl | exact fM rfl))))
      (apply wdp; exact rfl; (intro w hp; exact pv_lookup (K := kStr) (a := pl) hp 3 rfl rfl rfl mp90.1 mp90.2.1 mp90.2.2); exact (mF_look _ _).trans (int_eq hgv))
      (apply wdp; exact rfl; (intro w hp; exact pf_index rfl rfl rfl rfl hgm); exact fP rfl)
      (apply wdp; exact rfl; (intro w hp; exact pf_load rfl rfl (own_elem hp (k + 5) hent hvr (fun _ => rfl) hrg 0 _ rfl)); exact fI rfl)
      (apply wdp; exact rfl; (intro w hp; exact pv_add rfl rfl); exact int_eq (b := ((cn + 1 : Nat) : Int)) (by rw [i64_in (by omega) (by omega)]; omega))
      (apply wdp; exact rfl; (intro w hp; exact pf_index rfl rfl rfl rfl hgm); exact fP rfl)
      (apply wds0S; exact rfl; exact rfl; exact st_setL eI R j ((cn + 1 : Nat) : Int) hp (k + 5) hent hvr (by rw [hrl]; exact hgm) rfl rfl (fun _ => rfl) rfl rfl (sizeTy_ok rfl); rintro _ w11 ⟨rfl, hp⟩)
      rw [hst] at hp
      have hp : Hp w [] w11 ([ownL eS 9 1 (some ⟨ab, 0, none⟩) l.length A, ownL eI 3 1 (some ⟨qb, 0, none⟩) l.length o, ownL (eOB m) 30 1 (some ⟨ob, 0, none⟩) l.length (rb.map some), mapE kStr cb (mF (colO ps.length ps)), blk b2 13 (frOf (dB nm 2 sP ps.length cP)) 32] ++ rowsC m rb (mtx l.length m (colG l ps) OS o (k + 1))) := by
        rw [← hrs]
        exact hp
      refine wpd_nil ?_
      (repeat (with_reducible first | apply WP_region | apply thenQ_n | apply inBlk_n))
      (apply wlp; (exact pv_add rfl rfl); exact int_eq (b := ((k + 1 : Nat) : Int)) (by rw [i64_in (by omega) (by omega)]; omega))
      (repeat (first | (with_reducible first | apply wpl_nil | apply thenQ_n) | (apply wlp; apply pv_move; exact fI rfl)))
      exact ⟨k + 1, put_self (Same.eq (by repeat (first | exact Same.hav | exact Same.refl | refine Same.put rfl ?_ | refine Same.havs rfl ?_))) rfl, ⟨by omega, hp⟩, by omega⟩
    obtain rfl : k = l.length := by omega
    rw [mtx_done _ _ _ _ _ []] at hp
    have hp := hp.tail
    have hr := Hp.rowat hp 0 rfl
    have h41 := p41 o qb l.length w10 hr (by omega) (by omega)
    rw [hzl, hnx] at h41
    clear hk h2 hva hak hcol hA
    (repeat (first | (with_reducible first | apply WP_region | apply thenQ_n | apply inBlk_n | apply thenQ_exit | apply WP_exit) | ((with_reducible apply inBlk_same); exact rfl) | (apply wlp; apply pv_move; exact fS rfl)))
    (apply wls; exact st_call rfl ent41 rfl h41; rintro _ w11 ⟨rfl, hk5, hr5⟩; have hp := Hp.callU hp 0 rfl hk5 hr5)
    (repeat (first | (with_reducible first | apply wpl_nil | apply thenQ_n) | (apply wlp; apply pv_assign; exact fB rfl)))
    refine ⟨t + 1, (if t + 1 < fact l.length then some (ordN l.length (t + 1)) else none).getD o, put_self (put_self (Same.eq (by repeat (first | exact Same.hav | exact Same.refl | refine Same.put rfl ?_ | refine Same.havs rfl ?_))) rfl) (bool_eq ?_), ⟨by omega, ?_, ?_, by rw [hos]; exact hp⟩, by omega⟩
    · by_cases ht1 : t + 1 < fact l.length
      · rw [if_pos ht1, decide_eq_true ht1]; rfl
      · rw [if_neg ht1, decide_eq_false ht1]; rfl
    · by_cases ht1 : t + 1 < fact l.length
      · rw [if_pos ht1]; exact ordN_len _ _
      · rw [if_neg ht1]; exact hzl
    · intro ht1
      rw [if_pos ht1]
      rfl
  obtain rfl : t = fact l.length := by omega
  clear ht h hz
  have hM := fun i (hi : i < l.length) => mtx_get (n := l.length) (m := m) (g := colG l ps) (os := osT l.length (fact l.length)) (o := []) (k := 0) hi
  have hrg0 : ∀ i j, j < m + 1 → (rowC m (colG l ps) (osT l.length (fact l.length)) i)[j]? = some (cntG (colG l ps) (osT l.length (fact l.length)) i j : Int) := fun i j hj => rowC_get hj
  have hrl0 := fun i => rowC_len m (colG l ps) (osT l.length (fact l.length)) i
  have hcl0 := fun i j => cntG_le (colG l ps) (osT l.length (fact l.length)) i j
  rw [osT_len] at hcl0
  have hod : ∀ i, oddsR l ps i = (List.range (m + 1)).map fun j => rat (cntG (colG l ps) (osT l.length (fact l.length)) i j) (fact l.length) := fun i => by rw [hm]; exact oddsR_eq l ps i
  generalize hMM : mtx l.length m (colG l ps) (osT l.length (fact l.length)) [] 0 = MM at hp hM
  generalize osT l.length (fact l.length) = OS at hrg0 hrl0 hcl0 hod hM
  clear hMM
  have hp : Hp w [] w8 ([ownL (eOB m) 30 1 (some ⟨ob, 0, none⟩) l.length (rb.map some)] ++ rowsC m rb MM) := (hp.dropAt 0).sub (List.Sublist.cons_cons _ (List.Sublist.cons _ (List.Sublist.cons _ (List.Sublist.refl _))))
  (repeat (first | (with_reducible first | apply WP_seq | apply WP_region | apply thenQ_n | apply thenQ_exit | apply WP_exit) | ((with_reducible apply inBlk_same); exact rfl) | (apply wlp; ((first | apply pv_move | (apply pf_len; exact rfl)) <;> exact rfl); (first | exact fI rfl | exact fS rfl))))
  (apply wls; exact sf_make eQR zQ hp rfl rfl rfl rfl rfl rfl rfl (by omega) rfl; rintro _ w9 ⟨cb2, rfl, hv2, hp⟩)
  have hp : Hp w [] w9 ([ownL eQR 49 1 (some ⟨cb2, 0, none⟩) l.length (([] : List QRow) ++ List.replicate (l.length - 0) zQ), ownL (eOB m) 30 1 (some ⟨ob, 0, none⟩) l.length (rb.map some)] ++ (rowsC m rb MM ++ rowsQ [])) := by
    rw [show rowsQ [] = [] from rfl, List.append_nil]
    exact hp
  clear hv2
  (repeat (first | (with_reducible first | apply WP_seq | apply WP_block | apply WP_region | apply wpl_nil | apply thenQ_n) | (apply wlp; ((first | apply pv_move | apply pv_assign | (apply pf_len; exact rfl)) <;> exact rfl); (first | exact fI rfl | exact fS rfl))))
  refine WP_loop2 [19, 20, 22, 23, 24, 116, 117, 118, 119, 120, 121, 122, 123, 124, 125, 126, 127, 128, 129, 130, 131, 132, 133, 134, 135, 136, 137, 138, 139, 140, 141, 142, 143, 144, 145, 146] (fun (i : Nat) (_rs : List QRow) F => F.put 116 (.int .i64 (i : Int)))
    (fun i rs w' => i ≤ l.length ∧ rs.length = i ∧ rs.map QRow.l = (List.range i).map (oddsR l ps) ∧ (∀ r ∈ rs, SVL r.s r.c r.l) ∧ Hp w [] w' ([ownL eQR 49 1 (some ⟨cb2, 0, none⟩) l.length (rs ++ List.replicate (l.length - i) zQ), ownL (eOB m) 30 1 (some ⟨ob, 0, none⟩) l.length (rb.map some)] ++ (rowsC m rb MM ++ rowsQ rs))) (fun i _ => l.length - i) 0 [] (put_self (Same.eq .refl) rfl) ⟨Nat.zero_le _, rfl, rfl, by simp, hp⟩ ?_
  (repeat clear hp)
  rintro u i rs w10 ⟨hi, hrs, hrm, hrv, hp⟩
  have hql := part_len (z := zQ) hrs hi
  have hvq : SVL (some ⟨cb2, 0, none⟩) l.length (rs ++ List.replicate (l.length - i) zQ) := .inr ⟨cb2, l.length, by rw [hql], by rw [hql]; exact Nat.le_refl _, by unfold maxLen; omega⟩
  (repeat (first | (with_reducible first | apply WP_seq | apply WP_region | apply wpl_nil | apply thenQ_n) | (apply wlp; (apply pv_lss <;> exact rfl); exact fB rfl)))
  refine WP_cond_d rfl (fun h => ?_) (fun h => ?_)
  · have hlt : i < l.length := by omega
    have hkb : i < rb.length := by omega
    obtain ⟨bk, hbk⟩ : ∃ bk, rb[i]? = some bk := ⟨_, List.getElem?_eq_getElem hkb⟩
    have hobk := hog i bk hbk
    have hrow := hM i hlt
    rw [if_neg (by omega)] at hrow
    have hent := rowsC_get (m := m) hbk hrow
    have hrl := hrl0 i
    have hrg := hrg0 i
    have hcl := hcl0 i
    have hod := hod i
    generalize rowC m (colG l ps) OS i = R at hent hrl hrg
    generalize cntG (colG l ps) OS i = cn at hrg hcl hod
    have hvr : SVL (some ⟨bk, 0, none⟩) (m + 1) R := .inr ⟨bk, m + 1, by rw [hrl], by rw [hrl]; exact Nat.le_refl _, by unfold maxLen; omega⟩
    have hent : (rowsC m rb MM ++ rowsQ rs)[i]? = some (rowE m bk R) := by
      rw [List.getElem?_append_left (List.getElem?_eq_some_iff.1 hent).1]
      exact hent
    have hp := hp.nilL eQ 55 3
    rw [part_split hlt] at hp
    have hp : Hp w [] w10 ([ownL eQ 55 3 none 0 ((List.range 0).map fun j => rat (cn j) (fact l.length)), ownL eQR 49 1 (some ⟨cb2, 0, none⟩) l.length ((rs ++ [⟨none, 0, (List.range 0).map fun j => rat (cn j) (fact l.length)⟩]) ++ List.replicate (l.length - (i + 1)) zQ), ownL (eOB m) 30 1 (some ⟨ob, 0, none⟩) l.length (rb.map some)] ++ (rowsC m rb MM ++ rowsQ rs)) := hp
    clear hql hvq
    have hql : ∀ q : QRow, ((rs ++ [q]) ++ List.replicate (l.length - (i + 1)) zQ).length = l.length := fun q => part_len (by rw [List.length_append, hrs]; rfl) (by omega)
    have hvq : ∀ q : QRow, SVL (some ⟨cb2, 0, none⟩) l.length ((rs ++ [q]) ++ List.replicate (l.length - (i + 1)) zQ) := fun q => .inr ⟨cb2, l.length, by rw [hql], by rw [hql]; exact Nat.le_refl _, by unfold maxLen; omega⟩
    (repeat (first | (with_reducible first | apply WP_seq | apply WP_block | apply WP_region | apply thenQ_n | apply WP_skip) | (apply wlp; ((first | apply pv_move | (apply pf_load; exact rfl) | (apply pf_index; exact rfl)) <;> (first | exact rfl | assumption)); (first | exact fI rfl | exact fP rfl))))
    (apply wlp; exact pf_load rfl rfl (own_elem hp 2 rfl hvo (eOB_len m) hobk 0 _ rfl); exact fS rfl)
    (repeat (first | (with_reducible first | apply WP_seq | apply WP_block | apply WP_region | apply wpl_nil | apply thenQ_n) | (apply wlp; ((first | apply pv_move | apply pv_assign | (apply pf_len; exact rfl)) <;> exact rfl); (first | exact fI rfl | exact fS rfl))))
    refine WP_loopS [22, 23, 24, 123, 124, 125, 126, 127, 128, 129, 130, 131, 132, 133, 134, 135, 136, 137, 138, 139, 140, 141, 142, 143, 144, 145] (fun (X : Nat × Option Addr × Nat) F => F.put 123 (.int .i64 (X.1 : Int)))
      (fun X w' => X.1 ≤ m + 1 ∧ SVL X.2.1 X.2.2 ((List.range X.1).map fun j => rat (cn j) (fact l.length)) ∧ Hp w [] w' ([ownL eQ 55 3 X.2.1 X.2.2 ((List.range X.1).map fun j => rat (cn j) (fact l.length)), ownL eQR 49 1 (some ⟨cb2, 0, none⟩) l.length ((rs ++ [⟨X.2.1, X.2.2, (List.range X.1).map fun j => rat (cn j) (fact l.length)⟩]) ++ List.replicate (l.length - (i + 1)) zQ), ownL (eOB m) 30 1 (some ⟨ob, 0, none⟩) l.length (rb.map some)] ++ (rowsC m rb MM ++ rowsQ rs))) (fun X => m + 1 - X.1) (0, none, 0) (put_self (Same.eq .refl) rfl) ⟨Nat.zero_le _, .nil, hp⟩ ?_
    (repeat clear hp)
    rintro u2 ⟨j, s2, c2⟩ w11 ⟨hj, hvT, hp⟩
    dsimp only at hj hvT hp ⊢
    (repeat (first | (with_reducible first | apply WP_seq | apply WP_region | apply wpl_nil | apply thenQ_n) | (apply wlp; (apply pv_lss <;> exact rfl); exact fB rfl)))
    refine WP_cond_d rfl (fun h2 => ?_) (fun h2 => ?_)
    · have hjm : j < m + 1 := by omega
      have hrgj := hrg j hjm
      have hclj := hcl j
      have hT1 : (List.range (j + 1)).map (fun j => rat (cn j) (fact l.length)) = (List.range j).map (fun j => rat (cn j) (fact l.length)) ++ [rat (cn j) (fact l.length)] := by rw [List.range_succ, List.map_append]; rfl
      have hTl : ((List.range j).map fun j => rat (cn j) (fact l.length)).length = j := by rw [List.length_map, List.length_range]
      generalize (List.range j).map (fun j => rat (cn j) (fact l.length)) = T at hvT hp hT1 hTl
      have hfc : Fit (cn j) := Fit.small (by omega)
      have hff : Fit (fact l.length) := Fit.small (by omega)
      generalize cn j = q at hrgj hclj hT1 hfc
      (repeat (first | (with_reducible first | apply WP_seq | apply WP_block | apply WP_region | apply thenQ_n | apply WP_skip) | (apply wlp; ((first | (apply pf_load; exact rfl) | (apply pf_index; exact rfl)) <;> (first | exact rfl | assumption)); exact fP rfl)))
      (apply wlp; exact pf_load rfl rfl (own_elem hp (i + 3) hent hvr (fun _ => rfl) hrgj 0 _ rfl); exact fI rfl)
      (repeat (first | (with_reducible first | apply WP_seq | apply WP_region | apply wpl_nil | apply thenQ_n) | (apply wlp; (first | apply pv_move | apply pv_assign); exact fI rfl)))
      (apply wls; exact st_call rfl ent43 rfl (c13 (q : Int) _ (by omega)); rintro _ w12 ⟨rfl, hk⟩; rw [Int.toNat_natCast]; have hp := hp.call hk)
      (repeat (apply wlp; apply pv_move; exact fI rfl))
      (apply wls; exact st_call rfl ent43 rfl (c13 (fact l.length : Int) _ (by omega)); rintro _ w13 ⟨rfl, hk⟩; rw [Int.toNat_natCast]; have hp := hp.call hk)
      skip
      (apply wls; exact st_call rfl ent42 rfl (c59 q (fact l.length) _ hfc hff hfp); rintro _ w14 ⟨rfl, hk⟩; have hp := hp.call hk)
      (repeat (apply wlp; ((first | apply pv_move | apply pv_extract) <;> exact rfl); (first | exact fB rfl | exact fA3 rfl | exact fU rfl)))
      (apply wls; exact salloc3 hp (zeroTy_ok rfl); rintro _ w15 ⟨pb, rfl, hp⟩)
      (apply wls0; exact sstore3 hp 0 rfl rfl rfl rfl (sizeTy_ok rfl) rfl; rintro _ w16 ⟨rfl, hp⟩)
      have hp := hp.norm 0 (eQ (rat q (fact l.length))) rfl rfl
      have hp : Hp w [] w16 ([blk pb 3 (frOf (eQ (rat q (fact l.length)))) 55, ownL eQ 55 3 s2 c2 T, ownL eQR 49 1 (some ⟨cb2, 0, none⟩) l.length ((rs ++ [⟨s2, c2, T⟩]) ++ List.replicate (l.length - (i + 1)) zQ), ownL (eOB m) 30 1 (some ⟨ob, 0, none⟩) l.length (rb.map some)] ++ (rowsC m rb MM ++ rowsQ rs)) := hp
      (repeat (first | (with_reducible first | apply wpl_nil | apply thenQ_n) | (apply wlp; apply pv_assign; exact fB rfl)))
      refine WP_drawS mixed (by kernel_rfl) (fun w' => Hp _ _ w' _) hp.drew ?_
      have hp := hp.drew
      (repeat ((apply wdp; exact rfl); (intro w hp; intros; ((first | apply pv_move | (apply pf_load; exact rfl) | (apply pf_index; exact rfl)) <;> (first | exact rfl | assumption))); (intros; (first | exact fI rfl | exact fP rfl | exact fS rfl))))
      (apply wdp; exact rfl; (intro w hp; exact pf_load rfl rfl (own_elem hp 2 rfl (hvq _) (fun _ => rfl) (mid_get hrs) 0 _ rfl)); exact fS rfl)
      (repeat ((apply wdp; exact rfl); (intro w hp; intros; ((apply pf_loadb; exact rfl) <;> (first | exact rfl | exact hp.agg_blk 0 rfl rfl))); (intros; exact fA3 rfl)))
      (apply wds; exact rfl; exact sf_slice hp rfl rfl rfl rfl rfl rfl rfl; rintro _ w17 ⟨nb, rfl, hp⟩; refine ⟨hp.tail, ?_⟩)
      (apply wdsS; exact rfl; exact rfl; exact sf_app1 eQ T (rat q (fact l.length)) hp 2 0 rfl rfl rfl rfl rfl rfl (fun _ => rfl) rfl rfl rfl hvT rfl rfl (by omega); rintro _ w18 ⟨s3, c3, rfl, hv3, hp⟩)
      (repeat ((apply wdp; exact rfl); (intro w hp; intros; ((apply pf_index; exact rfl) <;> (first | exact rfl | assumption))); (intros; exact fP rfl)))
      (apply wds0S; exact rfl; exact rfl; exact st_setL eQR _ i ⟨s3, c3, T ++ [rat q (fact l.length)]⟩ hp 3 rfl (hvq _) (by rw [hql]; exact hlt) rfl rfl (fun _ => rfl) rfl rfl (sizeTy_ok rfl); rintro _ w19 ⟨rfl, hp⟩)
      rw [mid_set hrs] at hp
      refine wpd_nil ?_
      have hp := hp.tail.tail
      (repeat (with_reducible first | apply WP_region | apply thenQ_n | apply inBlk_n))
      (apply wlp; (exact pv_add rfl rfl); exact int_eq (b := ((j + 1 : Nat) : Int)) (by rw [i64_in (by omega) (by omega)]; omega))
      (repeat (first | (with_reducible first | apply wpl_nil | apply thenQ_n) | (apply wlp; apply pv_move; exact fI rfl)))
      refine ⟨(j + 1, s3, c3), put_self (Same.eq (by repeat (first | exact Same.hav | exact Same.refl | refine Same.put rfl ?_ | refine Same.havs rfl ?_))) rfl, ⟨by dsimp only; omega, ?_, ?_⟩, by dsimp only; omega⟩
      · dsimp only
        rw [hT1]
        exact hv3
      · dsimp only
        rw [hT1]
        exact hp
    · obtain rfl : j = m + 1 := by omega
      rw [← hod] at hvT hp
      have hp : Hp w [] w11 ([ownL eQR 49 1 (some ⟨cb2, 0, none⟩) l.length ((rs ++ [⟨s2, c2, oddsR l ps i⟩]) ++ List.replicate (l.length - (i + 1)) zQ), ownL (eOB m) 30 1 (some ⟨ob, 0, none⟩) l.length (rb.map some)] ++ (rowsC m rb MM ++ rowsQ (rs ++ [⟨s2, c2, oddsR l ps i⟩]))) := by
        rw [rowsQ_snoc, ← List.append_assoc, ← List.append_assoc]
        refine hp.perm ?_
        rw [← List.append_assoc]
        exact (List.perm_append_singleton _ _).symm
      (repeat (first | (with_reducible first | apply WP_region | apply thenQ_n | apply inBlk_n | apply thenQ_exit | apply WP_exit) | ((with_reducible apply inBlk_same); exact rfl)))
      (apply wlp; (exact pv_add rfl rfl); exact int_eq (b := ((i + 1 : Nat) : Int)) (by rw [i64_in (by omega) (by omega)]; omega))
      (repeat (first | (with_reducible first | apply wpl_nil | apply thenQ_n) | (apply wlp; apply pv_move; exact fI rfl)))
      refine ⟨i + 1, rs ++ [⟨s2, c2, oddsR l ps i⟩], put_self (Same.eq (by repeat (first | exact Same.hav | exact Same.refl | refine Same.put rfl ?_ | refine Same.havs rfl ?_))) rfl, ⟨by omega, by rw [List.length_append, hrs]; rfl, ?_, ?_, hp⟩, by omega⟩
      · rw [List.map_append, hrm, List.range_succ, List.map_append]
        rfl
      · intro r hr
        rcases List.mem_append.1 hr with hr | hr
        · exact hrv r hr
        · rw [List.mem_singleton.1 hr]
          exact hvT
  obtain rfl : i = l.length := by omega
  rw [part_done] at hp hvq
  have hso := ownL_At hp 0 rfl hvq (fun _ => rfl)
  have hrows : ∀ r ∈ rs, SlAt w10 3 eQ r.s r.l := fun r hr => ownL_mem (e := 55) hp (List.mem_append_right _ (List.mem_append_right _ (List.mem_map_of_mem (f := fun r : QRow => ownL eQ 55 3 r.s r.c r.l) hr))) (hrv r hr) (fun _ => rfl)
  (repeat (first | (with_reducible first | apply WP_seq | apply WP_region | apply wpl_nil | apply thenQ_n | apply thenQ_exit | apply WP_ret | apply WP_exit) | ((with_reducible apply inBlk_same); exact rfl) | (apply wlp; (first | apply pv_move | apply pv_assign); (first | exact fI rfl | exact fS rfl))))
  refine ret_tmp2 rfl rfl rfl ⟨_, rfl, some ⟨cb2, 0, none⟩, l.length, rs, by rw [hrs]; rfl, hso, hrows, hrm, hp.keeps⟩
end Go.Proofs.YtfjbioghpgmkiaaGreatDoor
/- places: what is given out hangs on class, family and wishes alone; the chain of orders up to six entrants; plain. -/
namespace Go.Proofs.YtfjbioghpgmkiaaGreatDoor
open Go.Eng Go.Dig

def enV (v : EV) : En := ⟨v.1, v.2.1, v.2.2.1, none, 0, v.2.2.2⟩
def cln (l : List En) : List En := (l.map evE).map enV
theorem cln_get (l : List En) (i : Nat) : (cln l)[i]? = (l[i]?).map fun e => enV (evE e) := by
  unfold cln
  rw [List.getElem?_map, List.getElem?_map]
  cases l[i]? <;> rfl
theorem cln_len (l : List En) : (cln l).length = l.length := by simp [cln]
theorem wsh_cln (l : List En) : wsh (cln l) = wsh l := by
  funext n
  unfold wsh
  rw [cln_get]
  cases l[n.toNat]? <;> rfl
theorem clsF_cln (l : List En) : clsF (cln l) = clsF l := by
  funext n
  unfold clsF
  rw [cln_get]
  cases l[n.toNat]? <;> rfl
theorem relF_cln (l : List En) : relF (cln l) = relF l := by
  funext n m
  unfold relF
  rw [cln_get, cln_get]
  cases l[n.toNat]? <;> cases l[m.toNat]? <;> rfl
theorem stepA_cln (l : List En) : stepA (cln l) = stepA l := by
  funext S n
  unfold stepA
  rw [wsh_cln]
theorem trn_cln (l : List En) (ord : List Int) : trn (cln l) ord = trn l ord := by
  unfold trn
  rw [clsF_cln, relF_cln]
theorem asg_cln (l : List En) (ps : List (ByteArray × Int)) (ord : List Int) : asg (cln l) ps ord = asg l ps ord := by
  unfold asg asg0
  rw [trn_cln, stepA_cln, cln_len]
/-- the same for lists that differ in their places in memory alone -/
theorem asg_ev {l l' : List En} (h : l.map evE = l'.map evE) (ps : List (ByteArray × Int)) (ord : List Int) : asg l ps ord = asg l' ps ord := by
  rw [← asg_cln l, ← asg_cln l']
  unfold cln
  rw [h]
theorem oddsL_cln (l : List En) (ps : List (ByteArray × Int)) : oddsL (cln l) ps = oddsL l ps := by
  unfold oddsL oddsR
  rw [cln_len]
  have : colG (cln l) ps = colG l ps := by
    funext o i
    unfold colG
    rw [asg_cln]
  rw [this]
theorem oddsL_ev {l l' : List En} (h : l.map evE = l'.map evE) (ps : List (ByteArray × Int)) : oddsL l ps = oddsL l' ps := by
  rw [← oddsL_cln l, ← oddsL_cln l']
  unfold cln
  rw [h]

def chainB (n : Nat) : Bool := decide (ordN n 0 = idn n) && (List.range (fact n)).all fun t => decide (adv (ordN n t) = if t + 1 < fact n then some (ordN n (t + 1)) else none) && isO n (ordN n t)
theorem chain_of {n : Nat} (h : chainB n = true) : Chain n := by
  unfold chainB at h
  simp only [Bool.and_eq_true, decide_eq_true_eq, List.all_eq_true, List.mem_range] at h
  exact ⟨h.1, fun t ht => (h.2 t ht).1, fun t ht => (h.2 t ht).2⟩
theorem chain6 : ∀ n, n ≤ 6 → Chain n
  | 0, _ => chain_of (by kernel_rfl)
  | 1, _ => chain_of (by kernel_rfl)
  | 2, _ => chain_of (by kernel_rfl)
  | 3, _ => chain_of (by kernel_rfl)
  | 4, _ => chain_of (by kernel_rfl)
  | 5, _ => chain_of (by kernel_rfl)
  | 6, _ => chain_of (by kernel_rfl)
  | n + 7, h => absurd h (by omega)

/-! the examples of the document -/
def aN : ByteArray := ⟨#[97]⟩
def bN : ByteArray := ⟨#[98]⟩
theorem ex1 : asg [enV (0, 0, 0, [aN]), enV (0, 0, 0, [aN]), enV (0, 0, 0, [aN])] [(aN, 1)] [1, 2, 0] = [noN, aN, noN] := by kernel_rfl
theorem ex2 : asg [enV (0, 0, 0, [aN]), enV (0, 1, 0, [aN]), enV (0, 1, 0, [aN])] [(aN, 1)] [1, 2, 0] = [aN, noN, noN] := by kernel_rfl
theorem ex3 : asg [enV (0, 0, 0, [aN, bN]), enV (0, 0, 5, [aN]), enV (0, 0, 5, [bN])] [(aN, 1), (bN, 1)] [1, 0, 2] = [noN, aN, bN] := by kernel_rfl
theorem ex4 : oddsL [enV (0, 0, 0, [aN]), enV (0, 0, 0, [aN])] [(aN, 1)] = [[(1, 2), (1, 2)], [(1, 2), (1, 2)]] := by kernel_rfl
theorem ex5 : ordN 3 0 = [0, 1, 2] := by kernel_rfl
theorem ex6 : ordN 3 3 = [1, 2, 0] := by kernel_rfl
theorem ex7 : num [2, 1, 0] = 5 := by kernel_rfl
theorem ex8 : 3 < fact 3 := by decide
theorem ex9 : fact (3 : Int).toNat ≤ 6 := by decide
theorem ex10 : isO 3 [2, 1, 0] = true := by kernel_rfl
theorem ex11 : isO 2 [0, 2] = false := by kernel_rfl
theorem ex12 : isO 3 [1, 2, 0] = true := by kernel_rfl
theorem ex13 : isO 3 [1, 0, 2] = true := by kernel_rfl
end Go.Proofs.YtfjbioghpgmkiaaGreatDoor
/- sorteslaw19.sanity returns true; no conditions. -/
namespace Go.Proofs.YtfjbioghpgmkiaaGreatDoor
open Go.Eng Go.Dig

def E1 (cls fam : Int) (b : Nat) (wl : List ByteArray) : En := ⟨0, cls, fam, some ⟨b, 0, none⟩, wl.length, wl⟩
theorem two_rows {rs : List QRow} {a b : List (Nat × Nat)} (h : rs.map QRow.l = [a, b]) : ∃ r0 r1, rs = [r0, r1] ∧ r0.l = a ∧ r1.l = b := by
  match rs, h with
  | [], h => cases h
  | [_], h => cases h
  | [r0, r1], h => exact ⟨r0, r1, rfl, by injection h, by injection h with _ h2; injection h2⟩
  | _ :: _ :: _ :: _, h => cases h
theorem pm1 : ∀ p ∈ [(aN, (1 : Int))], p.2 ≤ 9223372036854775807 := by
  intro p hp
  rw [List.mem_singleton.1 hp]
  decide
theorem pm2 : ∀ p ∈ [(aN, (1 : Int)), (bN, 1)], p.2 ≤ 9223372036854775807 := by
  intro p hp
  simp only [List.mem_cons, List.mem_nil_iff, or_false] at hp
  rcases hp with rfl | rfl <;> decide
theorem red1 (n : Nat) (h : n < 18446744073709551616) : Red n 1 := ⟨Nat.gcd_one_right n, by decide, Fit.small h, one_fit⟩

attribute [local irreducible] PV StepF wpl wpd WP Ret
attribute [local irreducible] Fit srt tl fl seenL stO isO trn fact ordN asg oddsL num

set_option maxHeartbeats 16000000 in
theorem p11 (w : World) : Ret Tryz.prog 11 [] w (fun v w' => v = .bool true ∧ Keeps [] w w') := by
  refine Ret.of_WP Tryz.func11 rfl Tryz.ntmps11 rfl ?_
  have hp := Hp.start (M := []) (w := w)
  (repeat (first | (with_reducible first | apply WP_seq | apply WP_region | apply wpl_nil | apply thenQ_n) | (apply wlp; apply pv_assign; exact fB rfl)))
  (apply wls; exact st_call rfl ent33 rfl (p33 0 _ (by decide)))
  rintro _ w1 ⟨rfl, hk⟩
  have hp := hp.call hk
  rw [show (0 : Int).toNat = 0 from rfl]
  skip
  (apply wls; exact st_call rfl ent22 rfl (p22t 3 (ofN 0) 0 _ (NS.self (Fit.small (by decide))) (Fit.small (by decide)) (by decide) (fact_pos 3)))
  rintro _ w2 ⟨sa, ca, rfl, hva, hpo⟩
  have hp := hp.join hpo
  clear hpo
  rw [ex5] at hva hp ⊢
  (repeat (first | (with_reducible first | apply WP_seq | apply WP_region | apply wpl_nil | apply thenQ_n) | (apply wlp; ((first | apply pv_move | apply pv_assign | apply pv_extract) <;> exact rfl); (first | exact fB rfl | exact fS rfl | exact fU rfl))))
  (apply wls; exact st_call rfl ent33 rfl (p33 3 _ (by decide)))
  rintro _ w3 ⟨rfl, hk⟩
  have hp := hp.call hk
  rw [show (3 : Int).toNat = 3 from rfl]
  skip
  (apply wls; exact st_call rfl ent22 rfl (p22t 3 (ofN 3) 3 _ (NS.self (Fit.small (by decide))) (Fit.small (by decide)) (by decide) ex8))
  rintro _ w4 ⟨sb, cb, rfl, hvb, hpo⟩
  have hp := hp.join hpo
  clear hpo
  rw [ex6] at hvb hp ⊢
  (repeat (first | (with_reducible first | apply WP_seq | apply WP_region | apply wpl_nil | apply thenQ_n) | (apply wlp; ((first | apply pv_move | apply pv_assign | apply pv_extract) <;> exact rfl); (first | exact fB rfl | exact fS rfl | exact fU rfl))))
  (apply wls; exact st_call rfl ent33 rfl (p33 6 _ (by decide)))
  rintro _ w5 ⟨rfl, hk⟩
  have hp := hp.call hk
  rw [show (6 : Int).toNat = 6 from rfl]
  skip
  (apply wls; exact st_call rfl ent22 rfl (p22f 3 (ofN 6) 6 _ (NS.self (Fit.small (by decide))) (.inr (.inr ex9))))
  rintro _ w6 ⟨rfl, hk⟩
  have hp := hp.call hk
  (repeat (first | (with_reducible first | apply WP_seq | apply WP_region | apply wpl_nil | apply thenQ_n) | (apply wlp; ((first | apply pv_move | apply pv_assign | apply pv_extract) <;> exact rfl); (first | exact fB rfl | exact fS rfl | exact fU rfl))))
  (apply wls; exact sf_slice hp rfl rfl rfl rfl rfl rfl rfl; rintro _ w7 ⟨n1, rfl, hp⟩)
  (apply wls; exact st_call rfl ent21 rfl (p21t [2, 1, 0] (some ⟨n1, 0, none⟩) 3 _ (blk_SlAt [2, 1, 0] hp 0 rfl (fun _ => rfl)) (by decide) (Nat.le_refl _) ex10))
  rintro _ w8 ⟨rfl, hk⟩
  have hp := (hp.call hk).tail
  rw [ex7]
  (repeat (first | (with_reducible first | apply WP_seq | apply WP_region | apply wpl_nil | apply thenQ_n) | (apply wlp; ((first | apply pv_move | apply pv_assign | apply pv_extract) <;> exact rfl); (first | exact fB rfl | exact fT rfl | exact fU rfl))))
  (apply wls; exact sf_slice hp rfl rfl rfl rfl rfl rfl rfl; rintro _ w9 ⟨n2, rfl, hp⟩)
  (apply wls; exact st_call rfl ent21 rfl (p21f [0, 2] (some ⟨n2, 0, none⟩) 2 _ (blk_SlAt [0, 2] hp 0 rfl (fun _ => rfl)) (by decide) (.inr ex11)))
  rintro _ w10 ⟨rfl, hk⟩
  have hp := (hp.call hk).tail
  (repeat (first | (with_reducible first | apply WP_seq | apply WP_region | apply wpl_nil | apply thenQ_n) | (apply wlp; ((first | apply pv_move | apply pv_assign | apply pv_extract) <;> exact rfl); (first | exact fB rfl | exact fS rfl | exact fT rfl | exact fU rfl))))
  (apply wls; exact sf_slice hp rfl rfl rfl rfl rfl rfl rfl; rintro _ w11 ⟨n3, rfl, hp⟩)
  (apply wls; exact st_call rfl ent24 rfl (p24 [0, 1, 2] [0, 1, 2] sa (some ⟨n3, 0, none⟩) ca 3 _ (ownL_At hp 2 rfl hva (fun _ => rfl)) (blk_SlAt [0, 1, 2] hp 0 rfl (fun _ => rfl)) (by decide) (by decide)))
  rintro _ w12 ⟨hv, hk⟩
  obtain rfl := hv.trans (bool_eq (b := true) (decide_eq_true rfl))
  have hp := (hp.call hk).tail
  (apply wlp; (apply pv_not <;> exact rfl); exact fB rfl)
  (apply wlp; apply pv_move; exact fB rfl)
  ((apply wlpT; exact rfl; exact rfl); (apply pv_move); (intros; exact fS rfl))
  (apply wlsT; exact rfl; exact rfl; exact sf_slice hp rfl rfl rfl rfl rfl rfl rfl; rintro _ w13 ⟨n4, rfl, hp⟩)
  (apply wlsT; exact rfl; exact rfl; exact st_call rfl ent24 rfl (p24 [1, 2, 0] [1, 2, 0] sb (some ⟨n4, 0, none⟩) cb 3 _ (ownL_At hp 1 rfl hvb (fun _ => rfl)) (blk_SlAt [1, 2, 0] hp 0 rfl (fun _ => rfl)) (by decide) (by decide)); rintro _ w14 ⟨hv, hk⟩; obtain rfl := hv.trans (bool_eq (b := true) (decide_eq_true rfl)); have hp := (hp.call hk).tail)
  ((apply wlpT; exact rfl; exact rfl); ((apply pv_not <;> exact rfl)); (intros; exact fB rfl))
  (apply wlp; exact pv_orF rfl rfl; exact fB rfl)
  (apply wlp; apply pv_move; exact fB rfl)
  ((apply wlpT; exact rfl; exact rfl); (apply pv_move); (intros; exact fB rfl))
  ((apply wlpT; exact rfl; exact rfl); ((apply pv_not <;> exact rfl)); (intros; exact fB rfl))
  (apply wlp; exact pv_orF rfl rfl; exact fB rfl)
  (apply wlp; apply pv_move; exact fB rfl)
  ((apply wlpT; exact rfl; exact rfl); (apply pv_move); (intros; exact fB rfl))
  ((apply wlpT; exact rfl; exact rfl); ((apply pv_not <;> exact rfl)); (intros; exact fB rfl))
  (apply wlp; exact pv_orF rfl rfl; exact fB rfl)
  (apply wlp; apply pv_move; exact fB rfl)
  ((apply wlpT; exact rfl; exact rfl); (apply pv_move); (intros; exact fB rfl))
  (apply wlp; exact pv_orF rfl rfl; exact fB rfl)
  (apply wlp; apply pv_move; exact fB rfl)
  ((apply wlpT; exact rfl; exact rfl); (apply pv_move); (intros; exact fT rfl))
  (apply wlsT; exact rfl; exact rfl; exact st_call rfl ent33 rfl (p33 5 _ (by decide)); rintro _ w15 ⟨rfl, hk⟩; have hp := hp.call hk)
  rw [show (5 : Int).toNat = 5 from rfl]
  (apply wlpT; exact rfl; exact rfl; exact pv_sneq rfl rfl; exact bool_eq (b := false) (by rw [decide_eq_true rfl]; rfl))
  (apply wlp; exact pv_orF rfl rfl; exact fB rfl)
  (apply wlp; apply pv_move; exact fB rfl)
  ((apply wlpT; exact rfl; exact rfl); (apply pv_move); (intros; exact fB rfl))
  ((apply wlpT; exact rfl; exact rfl); ((apply pv_not <;> exact rfl)); (intros; exact fB rfl))
  (apply wlp; exact pv_orF rfl rfl; exact fB rfl)
  (apply wlp; apply pv_move; exact fB rfl)
  ((apply wlpT; exact rfl; exact rfl); (apply pv_move); (intros; exact fB rfl))
  (apply wlp; exact pv_orF rfl rfl; exact fB rfl)
  (repeat (with_reducible first | apply wpl_nil | apply thenQ_n))
  refine WP_cond_f rfl ?_
  refine WP_fresh [] trivial ?_
  intro F1
  have hp := Hp.of_keeps (M := []) hp.keeps
  clear hva hvb
  (repeat (first | (with_reducible first | apply WP_seq | apply WP_region | apply thenQ_n | apply WP_skip) | (apply wlp; ((apply pf_build; exact rfl) <;> exact rfl); exact fA2 rfl)))
  (apply wls; exact sf_slice hp rfl rfl rfl rfl rfl rfl rfl; rintro _ w16 ⟨pb, rfl, hp⟩)
  (repeat (apply wlp; ((apply pf_build; exact rfl) <;> exact rfl); exact fA13 rfl))
  (apply wls; exact salloc13 hp (zeroTy_ok rfl); rintro _ w17 ⟨db, rfl, hp⟩)
  (apply wls0; exact sstore13 hp 0 rfl rfl rfl rfl (sizeTy_ok rfl) rfl; rintro _ w18 ⟨rfl, hp⟩)
  have hp := hp.norm 0 (dB noN 2 (some ⟨pb, 0, none⟩) 1 1) rfl rfl
  (repeat (with_reducible first | apply WP_seq | apply WP_region | apply wpl_nil | apply thenQ_n))
  (apply wls; exact sf_slice hp rfl rfl rfl rfl rfl rfl rfl; rintro _ w19 ⟨u1, rfl, hp⟩)
  (repeat (apply wlp; ((apply pf_build; exact rfl) <;> exact rfl); exact fA6 rfl))
  (apply wls; exact sf_slice hp rfl rfl rfl rfl rfl rfl rfl; rintro _ w20 ⟨u2, rfl, hp⟩)
  (repeat (apply wlp; ((apply pf_build; exact rfl) <;> exact rfl); exact fA6 rfl))
  (apply wls; exact sf_slice hp rfl rfl rfl rfl rfl rfl rfl; rintro _ w21 ⟨u3, rfl, hp⟩)
  (repeat (apply wlp; ((apply pf_build; exact rfl) <;> exact rfl); exact fA6 rfl))
  (apply wls; exact sf_slice hp rfl rfl rfl rfl rfl rfl rfl; rintro _ w22 ⟨lb, rfl, hp⟩)
  have hp : Hp w [] w22 [blk lb 18 (frOf ([E1 0 0 u1 [aN], E1 0 0 u2 [aN], E1 0 0 u3 [aN]].flatMap eE)) 41, blk u3 1 (frOf [.string aN]) 9, blk u2 1 (frOf [.string aN]) 9, blk u1 1 (frOf [.string aN]) 9, blk db 13 (frOf (dB noN 2 (some ⟨pb, 0, none⟩) 1 1)) 32, blk pb 2 (frOf [.string aN, .int .i64 1]) 52] := hp
  (repeat (first | (with_reducible first | apply WP_seq | apply WP_region | apply wpl_nil | apply thenQ_n) | (apply wlp; ((first | apply pv_move | apply pv_assign | (apply pf_loadb; exact rfl)) <;> (first | exact rfl | exact hp.agg_blk 4 rfl rfl)); (first | exact fS rfl | exact fA13 rfl))))
  (apply wls; exact sf_slice hp rfl rfl rfl rfl rfl rfl rfl; rintro _ w23 ⟨ob, rfl, hp⟩)
  have hE : EAt w23 (some ⟨lb, 0, none⟩) [E1 0 0 u1 [aN], E1 0 0 u2 [aN], E1 0 0 u3 [aN]] := ⟨blk_SlAt [E1 0 0 u1 [aN], E1 0 0 u2 [aN], E1 0 0 u3 [aN]] hp 1 rfl (fun _ => rfl), by
    intro e he
    simp only [List.mem_cons, List.mem_nil_iff, or_false] at he
    rcases he with rfl | rfl | rfl
    · exact blk_SlAt [aN] hp 4 rfl (fun _ => rfl)
    · exact blk_SlAt [aN] hp 3 rfl (fun _ => rfl)
    · exact blk_SlAt [aN] hp 2 rfl (fun _ => rfl)
    , by
    intro e he
    simp only [List.mem_cons, List.mem_nil_iff, or_false] at he
    rcases he with rfl | rfl | rfl
    · exact Nat.le_of_ble_eq_true rfl
    · exact Nat.le_of_ble_eq_true rfl
    · exact Nat.le_of_ble_eq_true rfl
    ⟩
  (apply wls; exact st_call rfl ent14 rfl (p14 noN [(aN, 1)] [E1 0 0 u1 [aN], E1 0 0 u2 [aN], E1 0 0 u3 [aN]] [1, 2, 0] (some ⟨lb, 0, none⟩) (some ⟨pb, 0, none⟩) (some ⟨ob, 0, none⟩) 3 1 3 _ hE (blk_SlAt [(aN, 1)] hp 6 rfl (fun _ => rfl)) (blk_SlAt [1, 2, 0] hp 0 rfl (fun _ => rfl)) (Nat.le_of_ble_eq_true rfl) (Nat.le_of_ble_eq_true rfl) pm1 ex12 (fun h => by cases h)))
  rintro _ w24 ⟨xb, rfl, hvx, hpo⟩
  have hp := (hp.join hpo).dropAt 1
  clear hpo hE
  have hx1 : asg [E1 0 0 u1 [aN], E1 0 0 u2 [aN], E1 0 0 u3 [aN]] [(aN, 1)] [1, 2, 0] = [noN, aN, noN] := (asg_ev (l := [E1 0 0 u1 [aN], E1 0 0 u2 [aN], E1 0 0 u3 [aN]]) (l' := [enV (0, 0, 0, [aN]), enV (0, 0, 0, [aN]), enV (0, 0, 0, [aN])]) rfl _ _).trans ex1
  rw [hx1] at hvx hp
  have hp : Hp w [] w24 [ownL eS 9 1 (some ⟨xb, 0, none⟩) 3 [noN, aN, noN], blk lb 18 (frOf ([E1 0 0 u1 [aN], E1 0 0 u2 [aN], E1 0 0 u3 [aN]].flatMap eE)) 41, blk u3 1 (frOf [.string aN]) 9, blk u2 1 (frOf [.string aN]) 9, blk u1 1 (frOf [.string aN]) 9, blk db 13 (frOf (dB noN 2 (some ⟨pb, 0, none⟩) 1 1)) 32, blk pb 2 (frOf [.string aN, .int .i64 1]) 52] := hp
  (repeat (first | (with_reducible first | apply WP_seq | apply WP_region | apply wpl_nil | apply thenQ_n) | (apply wlp; ((first | apply pv_move | apply pv_assign | apply pv_extract | (apply pf_index; exact rfl)) <;> exact rfl); (first | exact fB rfl | exact fS rfl | exact fU rfl))))
  (apply wlp; exact pf_index (i := 1) rfl rfl rfl rfl (by decide); exact fP rfl)
  (repeat (apply wlp; (apply pf_field <;> exact rfl); exact fP rfl))
  (apply wls0; exact sstore1 hp 1 rfl rfl rfl rfl (sizeTy_ok rfl) rfl; rintro _ w25 ⟨rfl, hp⟩)
  (repeat (apply wlp; ((apply pf_index; exact rfl) <;> exact rfl); skip))
  (apply wlp; exact pf_index (i := 2) rfl rfl rfl rfl (by decide); exact fP rfl)
  (repeat (apply wlp; (apply pf_field <;> exact rfl); exact fP rfl))
  (apply wls0; exact sstore1 hp 1 rfl rfl rfl rfl (sizeTy_ok rfl) rfl; rintro _ w26 ⟨rfl, hp⟩)
  have hp := hp.norm 1 ([E1 0 0 u1 [aN], E1 1 0 u2 [aN], E1 1 0 u3 [aN]].flatMap eE) rfl rfl
  have hp : Hp w [] w26 [ownL eS 9 1 (some ⟨xb, 0, none⟩) 3 [noN, aN, noN], blk lb 18 (frOf ([E1 0 0 u1 [aN], E1 1 0 u2 [aN], E1 1 0 u3 [aN]].flatMap eE)) 41, blk u3 1 (frOf [.string aN]) 9, blk u2 1 (frOf [.string aN]) 9, blk u1 1 (frOf [.string aN]) 9, blk db 13 (frOf (dB noN 2 (some ⟨pb, 0, none⟩) 1 1)) 32, blk pb 2 (frOf [.string aN, .int .i64 1]) 52] := hp
  (repeat (first | (with_reducible first | apply WP_seq | apply WP_region | apply wpl_nil | apply thenQ_n) | (apply wlp; ((first | apply pv_move | (apply pf_loadb; exact rfl)) <;> (first | exact rfl | exact hp.agg_blk 5 rfl rfl)); (first | exact fS rfl | exact fA13 rfl))))
  (apply wls; exact sf_slice hp rfl rfl rfl rfl rfl rfl rfl; rintro _ w27 ⟨ob2, rfl, hp⟩)
  have hE : EAt w27 (some ⟨lb, 0, none⟩) [E1 0 0 u1 [aN], E1 1 0 u2 [aN], E1 1 0 u3 [aN]] := ⟨blk_SlAt [E1 0 0 u1 [aN], E1 1 0 u2 [aN], E1 1 0 u3 [aN]] hp 2 rfl (fun _ => rfl), by
    intro e he
    simp only [List.mem_cons, List.mem_nil_iff, or_false] at he
    rcases he with rfl | rfl | rfl
    · exact blk_SlAt [aN] hp 5 rfl (fun _ => rfl)
    · exact blk_SlAt [aN] hp 4 rfl (fun _ => rfl)
    · exact blk_SlAt [aN] hp 3 rfl (fun _ => rfl)
    , by
    intro e he
    simp only [List.mem_cons, List.mem_nil_iff, or_false] at he
    rcases he with rfl | rfl | rfl
    · exact Nat.le_of_ble_eq_true rfl
    · exact Nat.le_of_ble_eq_true rfl
    · exact Nat.le_of_ble_eq_true rfl
    ⟩
  (apply wls; exact st_call rfl ent14 rfl (p14 noN [(aN, 1)] [E1 0 0 u1 [aN], E1 1 0 u2 [aN], E1 1 0 u3 [aN]] [1, 2, 0] (some ⟨lb, 0, none⟩) (some ⟨pb, 0, none⟩) (some ⟨ob2, 0, none⟩) 3 1 3 _ hE (blk_SlAt [(aN, 1)] hp 7 rfl (fun _ => rfl)) (blk_SlAt [1, 2, 0] hp 0 rfl (fun _ => rfl)) (Nat.le_of_ble_eq_true rfl) (Nat.le_of_ble_eq_true rfl) pm1 ex12 (fun h => by cases h)))
  rintro _ w28 ⟨yb, rfl, hvy, hpo⟩
  have hp := hp.join hpo
  clear hpo hE
  have hx2 : asg [E1 0 0 u1 [aN], E1 1 0 u2 [aN], E1 1 0 u3 [aN]] [(aN, 1)] [1, 2, 0] = [aN, noN, noN] := (asg_ev (l := [E1 0 0 u1 [aN], E1 1 0 u2 [aN], E1 1 0 u3 [aN]]) (l' := [enV (0, 0, 0, [aN]), enV (0, 1, 0, [aN]), enV (0, 1, 0, [aN])]) rfl _ _).trans ex2
  rw [hx2] at hvy hp
  have hp : Hp w [] w28 [ownL eS 9 1 (some ⟨yb, 0, none⟩) 3 [aN, noN, noN], ownL eS 9 1 (some ⟨xb, 0, none⟩) 3 [noN, aN, noN], blk db 13 (frOf (dB noN 2 (some ⟨pb, 0, none⟩) 1 1)) 32, blk pb 2 (frOf [.string aN, .int .i64 1]) 52] := hp.picks [0, 2, 7, 8] _ rfl rfl
  (repeat (first | (with_reducible first | apply WP_seq | apply WP_region | apply wpl_nil | apply thenQ_n) | (apply wlp; ((first | apply pv_move | apply pv_assign | apply pv_extract | (apply pf_build; exact rfl)) <;> exact rfl); (first | exact fB rfl | exact fS rfl | exact fA2 rfl | exact fU rfl))))
  (apply wls; exact sf_slice hp rfl rfl rfl rfl rfl rfl rfl; rintro _ w29 ⟨pb2, rfl, hp⟩)
  (repeat (apply wlp; ((apply pf_build; exact rfl) <;> exact rfl); exact fA13 rfl))
  (apply wls; exact salloc13 hp (zeroTy_ok rfl); rintro _ w30 ⟨db2, rfl, hp⟩)
  (apply wls0; exact sstore13 hp 0 rfl rfl rfl rfl (sizeTy_ok rfl) rfl; rintro _ w31 ⟨rfl, hp⟩)
  have hp := hp.norm 0 (dB noN 2 (some ⟨pb2, 0, none⟩) 2 2) rfl rfl
  (repeat (with_reducible first | apply WP_seq | apply WP_region | apply wpl_nil | apply thenQ_n))
  (apply wls; exact sf_slice hp rfl rfl rfl rfl rfl rfl rfl; rintro _ w32 ⟨v1, rfl, hp⟩)
  (repeat (apply wlp; ((apply pf_build; exact rfl) <;> exact rfl); exact fA6 rfl))
  (apply wls; exact sf_slice hp rfl rfl rfl rfl rfl rfl rfl; rintro _ w33 ⟨v2, rfl, hp⟩)
  (repeat (apply wlp; ((apply pf_build; exact rfl) <;> exact rfl); exact fA6 rfl))
  (apply wls; exact sf_slice hp rfl rfl rfl rfl rfl rfl rfl; rintro _ w34 ⟨v3, rfl, hp⟩)
  (repeat (apply wlp; ((apply pf_build; exact rfl) <;> exact rfl); exact fA6 rfl))
  (apply wls; exact sf_slice hp rfl rfl rfl rfl rfl rfl rfl; rintro _ w35 ⟨mb, rfl, hp⟩)
  have hp : Hp w [] w35 [blk mb 18 (frOf ([E1 0 0 v1 [aN, bN], E1 0 5 v2 [aN], E1 0 5 v3 [bN]].flatMap eE)) 41, blk v3 1 (frOf [.string bN]) 9, blk v2 1 (frOf [.string aN]) 9, blk v1 2 (frOf [.string aN, .string bN]) 9, blk db2 13 (frOf (dB noN 2 (some ⟨pb2, 0, none⟩) 2 2)) 32, blk pb2 4 (frOf [.string aN, .int .i64 1, .string bN, .int .i64 1]) 52, ownL eS 9 1 (some ⟨yb, 0, none⟩) 3 [aN, noN, noN], ownL eS 9 1 (some ⟨xb, 0, none⟩) 3 [noN, aN, noN], blk db 13 (frOf (dB noN 2 (some ⟨pb, 0, none⟩) 1 1)) 32, blk pb 2 (frOf [.string aN, .int .i64 1]) 52] := hp
  (repeat (first | (with_reducible first | apply WP_seq | apply WP_region | apply wpl_nil | apply thenQ_n) | (apply wlp; ((first | apply pv_move | apply pv_assign | (apply pf_loadb; exact rfl)) <;> (first | exact rfl | exact hp.agg_blk 4 rfl rfl)); (first | exact fS rfl | exact fA13 rfl))))
  (apply wls; exact sf_slice hp rfl rfl rfl rfl rfl rfl rfl; rintro _ w36 ⟨ob3, rfl, hp⟩)
  have hE : EAt w36 (some ⟨mb, 0, none⟩) [E1 0 0 v1 [aN, bN], E1 0 5 v2 [aN], E1 0 5 v3 [bN]] := ⟨blk_SlAt [E1 0 0 v1 [aN, bN], E1 0 5 v2 [aN], E1 0 5 v3 [bN]] hp 1 rfl (fun _ => rfl), by
    intro e he
    simp only [List.mem_cons, List.mem_nil_iff, or_false] at he
    rcases he with rfl | rfl | rfl
    · exact blk_SlAt [aN, bN] hp 4 rfl (fun _ => rfl)
    · exact blk_SlAt [aN] hp 3 rfl (fun _ => rfl)
    · exact blk_SlAt [bN] hp 2 rfl (fun _ => rfl)
    , by
    intro e he
    simp only [List.mem_cons, List.mem_nil_iff, or_false] at he
    rcases he with rfl | rfl | rfl
    · exact Nat.le_of_ble_eq_true rfl
    · exact Nat.le_of_ble_eq_true rfl
    · exact Nat.le_of_ble_eq_true rfl
    ⟩
  (apply wls; exact st_call rfl ent14 rfl (p14 noN [(aN, 1), (bN, 1)] [E1 0 0 v1 [aN, bN], E1 0 5 v2 [aN], E1 0 5 v3 [bN]] [1, 0, 2] (some ⟨mb, 0, none⟩) (some ⟨pb2, 0, none⟩) (some ⟨ob3, 0, none⟩) 3 2 3 _ hE (blk_SlAt [(aN, 1), (bN, 1)] hp 6 rfl (fun _ => rfl)) (blk_SlAt [1, 0, 2] hp 0 rfl (fun _ => rfl)) (Nat.le_of_ble_eq_true rfl) (Nat.le_of_ble_eq_true rfl) pm2 ex13 (fun h => by cases h)))
  rintro _ w37 ⟨zb, rfl, hvz, hpo⟩
  have hp := (hp.join hpo).dropAt 1
  clear hpo hE
  have hx3 : asg [E1 0 0 v1 [aN, bN], E1 0 5 v2 [aN], E1 0 5 v3 [bN]] [(aN, 1), (bN, 1)] [1, 0, 2] = [noN, aN, bN] := (asg_ev (l := [E1 0 0 v1 [aN, bN], E1 0 5 v2 [aN], E1 0 5 v3 [bN]]) (l' := [enV (0, 0, 0, [aN, bN]), enV (0, 0, 5, [aN]), enV (0, 0, 5, [bN])]) rfl _ _).trans ex3
  rw [hx3] at hvz hp
  have hp : Hp w [] w37 [ownL eS 9 1 (some ⟨zb, 0, none⟩) 3 [noN, aN, bN], blk mb 18 (frOf ([E1 0 0 v1 [aN, bN], E1 0 5 v2 [aN], E1 0 5 v3 [bN]].flatMap eE)) 41, blk v3 1 (frOf [.string bN]) 9, blk v2 1 (frOf [.string aN]) 9, blk v1 2 (frOf [.string aN, .string bN]) 9, blk db2 13 (frOf (dB noN 2 (some ⟨pb2, 0, none⟩) 2 2)) 32, blk pb2 4 (frOf [.string aN, .int .i64 1, .string bN, .int .i64 1]) 52, ownL eS 9 1 (some ⟨yb, 0, none⟩) 3 [aN, noN, noN], ownL eS 9 1 (some ⟨xb, 0, none⟩) 3 [noN, aN, noN], blk db 13 (frOf (dB noN 2 (some ⟨pb, 0, none⟩) 1 1)) 32, blk pb 2 (frOf [.string aN, .int .i64 1]) 52] := hp
  (repeat (first | (with_reducible first | apply WP_seq | apply WP_region | apply wpl_nil | apply thenQ_n) | (apply wlp; ((first | apply pv_move | apply pv_assign | apply pv_extract) <;> exact rfl); (first | exact fB rfl | exact fS rfl | exact fU rfl))))
  (apply wls; exact sf_slice hp rfl rfl rfl rfl rfl rfl rfl; rintro _ w38 ⟨n1, rfl, hp⟩)
  (apply wls; exact st_call rfl ent15 rfl (p15 [noN, aN, noN] [noN, aN, noN] (some ⟨xb, 0, none⟩) (some ⟨n1, 0, none⟩) 3 3 _ (ownL_At hp 9 rfl hvx (fun _ => rfl)) (blk_SlAt [noN, aN, noN] hp 0 rfl (fun _ => rfl)) (by decide) (by decide)))
  rintro _ w39 ⟨hv, hk⟩
  obtain rfl := hv.trans (bool_eq (b := true) (decide_eq_true rfl))
  have hp := (hp.call hk).tail
  (apply wlp; (apply pv_not <;> exact rfl); exact fB rfl)
  (apply wlp; apply pv_move; exact fB rfl)
  ((apply wlpT; exact rfl; exact rfl); (apply pv_move); (intros; exact fS rfl))
  (apply wlsT; exact rfl; exact rfl; exact sf_slice hp rfl rfl rfl rfl rfl rfl rfl; rintro _ w40 ⟨n2, rfl, hp⟩)
  (apply wlsT; exact rfl; exact rfl; exact st_call rfl ent15 rfl (p15 [aN, noN, noN] [aN, noN, noN] (some ⟨yb, 0, none⟩) (some ⟨n2, 0, none⟩) 3 3 _ (ownL_At hp 8 rfl hvy (fun _ => rfl)) (blk_SlAt [aN, noN, noN] hp 0 rfl (fun _ => rfl)) (by decide) (by decide)); rintro _ w41 ⟨hv, hk⟩; obtain rfl := hv.trans (bool_eq (b := true) (decide_eq_true rfl)); have hp := (hp.call hk).tail)
  ((apply wlpT; exact rfl; exact rfl); ((apply pv_not <;> exact rfl)); (intros; exact fB rfl))
  (apply wlp; exact pv_orF rfl rfl; exact fB rfl)
  (apply wlp; apply pv_move; exact fB rfl)
  ((apply wlpT; exact rfl; exact rfl); (apply pv_move); (intros; exact fS rfl))
  (apply wlsT; exact rfl; exact rfl; exact sf_slice hp rfl rfl rfl rfl rfl rfl rfl; rintro _ w42 ⟨n3, rfl, hp⟩)
  (apply wlsT; exact rfl; exact rfl; exact st_call rfl ent15 rfl (p15 [noN, aN, bN] [noN, aN, bN] (some ⟨zb, 0, none⟩) (some ⟨n3, 0, none⟩) 3 3 _ (ownL_At hp 1 rfl hvz (fun _ => rfl)) (blk_SlAt [noN, aN, bN] hp 0 rfl (fun _ => rfl)) (by decide) (by decide)); rintro _ w43 ⟨hv, hk⟩; obtain rfl := hv.trans (bool_eq (b := true) (decide_eq_true rfl)); have hp := (hp.call hk).tail)
  ((apply wlpT; exact rfl; exact rfl); ((apply pv_not <;> exact rfl)); (intros; exact fB rfl))
  (apply wlp; exact pv_orF rfl rfl; exact fB rfl)
  (apply wlp; apply pv_move; exact fB rfl)
  ((apply wlpT; exact rfl; exact rfl); (((apply pf_loadb; exact rfl) <;> (first | exact rfl | exact hp.agg_blk 5 rfl rfl))); (intros; exact fA13 rfl))
  ((apply wlpT; exact rfl; exact rfl); (apply pv_move); (intros; exact fS rfl))
  (apply wlsT; exact rfl; exact rfl; exact sf_slice hp rfl rfl rfl rfl rfl rfl rfl; rintro _ w44 ⟨ob4, rfl, hp⟩)
  ((apply wlpT; exact rfl; exact rfl); (apply pv_move); (intros; exact fS rfl))
  have hE : EAt w44 (some ⟨mb, 0, none⟩) [E1 0 0 v1 [aN, bN], E1 0 5 v2 [aN], E1 0 5 v3 [bN]] := ⟨blk_SlAt [E1 0 0 v1 [aN, bN], E1 0 5 v2 [aN], E1 0 5 v3 [bN]] hp 2 rfl (fun _ => rfl), by
    intro e he
    simp only [List.mem_cons, List.mem_nil_iff, or_false] at he
    rcases he with rfl | rfl | rfl
    · exact blk_SlAt [aN, bN] hp 5 rfl (fun _ => rfl)
    · exact blk_SlAt [aN] hp 4 rfl (fun _ => rfl)
    · exact blk_SlAt [bN] hp 3 rfl (fun _ => rfl)
    , by
    intro e he
    simp only [List.mem_cons, List.mem_nil_iff, or_false] at he
    rcases he with rfl | rfl | rfl
    · exact Nat.le_of_ble_eq_true rfl
    · exact Nat.le_of_ble_eq_true rfl
    · exact Nat.le_of_ble_eq_true rfl
    ⟩
  (apply wlsT; exact rfl; exact rfl; exact st_call rfl ent23 rfl (p23 noN [(aN, 1), (bN, 1)] [E1 0 0 v1 [aN, bN], E1 0 5 v2 [aN], E1 0 5 v3 [bN]] [1, 0, 2] [noN, aN, bN] (some ⟨mb, 0, none⟩) (some ⟨pb2, 0, none⟩) (some ⟨ob4, 0, none⟩) (some ⟨zb, 0, none⟩) 3 2 3 3 _ hE (by
    intro e he
    simp only [List.mem_cons, List.mem_nil_iff, or_false] at he
    rcases he with rfl | rfl | rfl <;> exact Nat.le_refl _) (blk_SlAt [(aN, 1), (bN, 1)] hp 7 rfl (fun _ => rfl)) (blk_SlAt [1, 0, 2] hp 0 rfl (fun _ => rfl)) (ownL_At hp 1 rfl hvz (fun _ => rfl)) (Nat.le_of_ble_eq_true rfl) (Nat.le_of_ble_eq_true rfl) pm2 ex13 (fun h => by cases h) rfl); rintro _ w45 ⟨⟨bo, rfl, hbo⟩, hk⟩; have hp := hp.call hk)
  have hbo : bo = true := hbo.2 ((stbP_asg (l := [E1 0 0 v1 [aN, bN], E1 0 5 v2 [aN], E1 0 5 v3 [bN]]) (ps := [(aN, 1), (bN, 1)]) (ord := [1, 0, 2]) (x := [noN, aN, bN]) ex13 rfl).2 hx3.symm)
  subst hbo
  clear hE
  ((apply wlpT; exact rfl; exact rfl); ((apply pv_not <;> exact rfl)); (intros; exact fB rfl))
  (apply wlp; exact pv_orF rfl rfl; exact fB rfl)
  (repeat (with_reducible first | apply wpl_nil | apply thenQ_n))
  refine WP_cond_f rfl ?_
  refine WP_fresh [(11, .pointer (some ⟨db, 0, none⟩))] ⟨rfl, trivial⟩ ?_
  intro F2
  have hp : Hp w [] w45 [blk db 13 (frOf (dB noN 2 (some ⟨pb, 0, none⟩) 1 1)) 32, blk pb 2 (frOf [.string aN, .int .i64 1]) 52] := hp.picks [10, 11] _ rfl rfl
  clear hvx hvy hvz
  (repeat (first | (with_reducible first | apply WP_seq | apply WP_region | apply thenQ_n | apply WP_skip) | (apply wlp; ((apply pf_loadb; exact rfl) <;> (first | exact rfl | exact hp.agg_blk 0 rfl rfl)); exact fA13 rfl)))
  (apply wls; exact sf_slice hp rfl rfl rfl rfl rfl rfl rfl; rintro _ w46 ⟨c1, rfl, hp⟩)
  (repeat (apply wlp; ((apply pf_build; exact rfl) <;> exact rfl); exact fA6 rfl))
  (apply wls; exact sf_slice hp rfl rfl rfl rfl rfl rfl rfl; rintro _ w47 ⟨c2, rfl, hp⟩)
  (repeat (apply wlp; ((apply pf_build; exact rfl) <;> exact rfl); exact fA6 rfl))
  (apply wls; exact sf_slice hp rfl rfl rfl rfl rfl rfl rfl; rintro _ w48 ⟨lb3, rfl, hp⟩)
  have hp : Hp w [] w48 [blk lb3 12 (frOf ([E1 0 0 c1 [aN], E1 0 0 c2 [aN]].flatMap eE)) 41, blk c2 1 (frOf [.string aN]) 9, blk c1 1 (frOf [.string aN]) 9, blk db 13 (frOf (dB noN 2 (some ⟨pb, 0, none⟩) 1 1)) 32, blk pb 2 (frOf [.string aN, .int .i64 1]) 52] := hp
  have hE : EAt w48 (some ⟨lb3, 0, none⟩) [E1 0 0 c1 [aN], E1 0 0 c2 [aN]] := ⟨blk_SlAt [E1 0 0 c1 [aN], E1 0 0 c2 [aN]] hp 0 rfl (fun _ => rfl), by
    intro e he
    simp only [List.mem_cons, List.mem_nil_iff, or_false] at he
    rcases he with rfl | rfl
    · exact blk_SlAt [aN] hp 2 rfl (fun _ => rfl)
    · exact blk_SlAt [aN] hp 1 rfl (fun _ => rfl)
    , by
    intro e he
    simp only [List.mem_cons, List.mem_nil_iff, or_false] at he
    rcases he with rfl | rfl
    · exact Nat.le_of_ble_eq_true rfl
    · exact Nat.le_of_ble_eq_true rfl
    ⟩
  (apply wls; exact st_call rfl ent16 rfl (p16 noN [(aN, 1)] [E1 0 0 c1 [aN], E1 0 0 c2 [aN]] (some ⟨lb3, 0, none⟩) (some ⟨pb, 0, none⟩) 2 1 _ hE (blk_SlAt [(aN, 1)] hp 4 rfl (fun _ => rfl)) (Nat.le_of_ble_eq_true rfl) (Nat.le_of_ble_eq_true rfl) pm1 (chain6 2 (by decide))))
  rintro _ w49 ⟨so, co, rs, rfl, hso, hrs, hrm, hk⟩
  have hk0 : Keeps [] w w49 := hp.keeps.trans hk (by simp)
  have hx4 : oddsL [E1 0 0 c1 [aN], E1 0 0 c2 [aN]] [(aN, 1)] = [[(1, 2), (1, 2)], [(1, 2), (1, 2)]] := (oddsL_ev (l := [E1 0 0 c1 [aN], E1 0 0 c2 [aN]]) (l' := [enV (0, 0, 0, [aN]), enV (0, 0, 0, [aN])]) rfl _).trans ex4
  rw [hx4] at hrm
  obtain ⟨r0, r1, rfl, h0, h1⟩ := two_rows hrm
  have hs0 : SlAt w49 3 eQ r0.s [(1, 2), (1, 2)] := by rw [← h0]; exact hrs r0 (by simp)
  have hs1 : SlAt w49 3 eQ r1.s [(1, 2), (1, 2)] := by rw [← h1]; exact hrs r1 (by simp)
  obtain ⟨bo, oo, hso0, hco⟩ := hso.base (Nat.le_of_ble_eq_true rfl)
  have hc0 : w49.cell? ⟨bo, oo + 0 * 1 + 0, none⟩ = some (.slice r0.s 2 r0.c) := by
    have := hco 0 r0 rfl 0 _ rfl
    rw [h0] at this
    exact this
  have hc1 : w49.cell? ⟨bo, oo + 1 * 1 + 0, none⟩ = some (.slice r1.s 2 r1.c) := by
    have := hco 1 r1 rfl 0 _ rfl
    rw [h1] at this
    exact this
  clear hp hE hso hrs hco
  have hp := Hp.start (M := []) (w := w49)
  (repeat (first | (with_reducible first | apply WP_seq | apply WP_region | apply wpl_nil | apply thenQ_n) | (apply wlp; ((first | apply pv_move | apply pv_assign | apply pv_extract) <;> exact rfl); (first | exact fI rfl | exact fS rfl | exact fU rfl))))
  (apply wls; exact st_call rfl ent19 rfl (p19 1 _ (by decide) (by decide)))
  rintro _ w50 ⟨rfl, hk⟩
  have hp := hp.call hk
  rw [show (1 : Int).toNat = 1 from rfl]
  skip
  (apply wls; exact st_call rfl ent19 rfl (p19 2 _ (by decide) (by decide)))
  rintro _ w51 ⟨rfl, hk⟩
  have hp := hp.call hk
  rw [show (2 : Int).toNat = 2 from rfl]
  skip
  (apply wls; exact st_call rfl ent18 rfl (p18 (a := 1) (e := 1) (c := 2) (d := 1) (red1 1 (by decide)) (red1 2 (by decide)) (by decide) (Fit.small (by decide)) (Fit.small (by decide)) _))
  rintro _ w52 ⟨hv, hk⟩
  obtain rfl := hv.trans (show _ = Value.tuple #[RV 1 2, .bool true] from rfl)
  have hp := hp.call hk
  (repeat (apply wlp; ((first | apply pv_move | apply pv_extract) <;> exact rfl); (first | exact fB rfl | exact fA3 rfl | exact fU rfl)))
  (apply wls; exact salloc3 hp (zeroTy_ok rfl); rintro _ w53 ⟨hb, rfl, hp⟩)
  (apply wls0; exact sstore3 hp 0 rfl rfl rfl rfl (sizeTy_ok rfl) rfl; rintro _ w54 ⟨rfl, hp⟩)
  have hp := hp.norm 0 (eQ (1, 2)) rfl rfl
  (repeat (first | (with_reducible first | apply WP_seq | apply WP_region | apply wpl_nil | apply thenQ_n) | (apply wlp; ((first | apply pv_assign | (apply pf_loadb; exact rfl)) <;> (first | exact rfl | exact hp.agg_blk 0 rfl rfl)); (first | exact fB rfl | exact fA3 rfl))))
  (apply wls; exact sf_slice hp rfl rfl rfl rfl rfl rfl rfl; rintro _ w55 ⟨wb, rfl, hp⟩)
  have hp : Hp w49 [] w55 [blk wb 6 (frOf ([(1, 2), (1, 2)].flatMap eQ)) 55, blk hb 3 (frOf (eQ (1, 2))) 55] := hp
  (apply wlp; apply pv_assign; exact fS rfl)
  (repeat (with_reducible first | apply WP_seq | apply WP_region | apply wpl_nil | apply thenQ_n))
  (apply wlp; apply pv_move; exact fI rfl)
  (apply wlp; (exact pv_eql rfl rfl); exact bool_eq (b := true) (decide_eq_true (by omega)))
  (apply wlp; apply pv_move; exact fB rfl)
  ((apply wlpT; exact rfl; exact rfl); (apply pv_move); (intros; exact fS rfl))
  ((apply wlpT; exact rfl; exact rfl); (((apply pf_len; exact rfl) <;> exact rfl)); (intros; exact fI rfl))
  (apply wlpT; exact rfl; exact rfl; exact pv_eql rfl rfl; exact bool_eq (b := true) (decide_eq_true rfl))
  (apply wlp; exact pv_andT rfl rfl; exact fB rfl)
  (apply wlp; apply pv_move; exact fB rfl)
  ((apply wlpT; exact rfl; exact rfl); (apply pv_move); (intros; exact fS rfl))
  (apply wlpT; exact rfl; exact rfl; exact pf_index (i := 0) rfl rfl rfl hso0 (Nat.le_of_ble_eq_true rfl); exact fP rfl)
  (apply wlpT; exact rfl; exact rfl; exact pf_load rfl rfl (hp.old0 hc0); exact fS rfl)
  ((apply wlpT; exact rfl; exact rfl); (apply pv_move); (intros; exact fS rfl))
  (apply wlsT; exact rfl; exact rfl; exact st_call rfl ent17 rfl (p17 [(1, 2), (1, 2)] [(1, 2), (1, 2)] r0.s (some ⟨wb, 0, none⟩) r0.c 2 _ (hs0.keep0 hp.keeps) (blk_SlAt [(1, 2), (1, 2)] hp 0 rfl (fun _ => rfl)) (by decide) (by decide)); rintro _ w56 ⟨hv, hk⟩; obtain rfl := hv.trans (bool_eq (b := true) (decide_eq_true rfl)); have hp := hp.call hk)
  (apply wlp; exact pv_andT rfl rfl; exact fB rfl)
  (apply wlp; apply pv_move; exact fB rfl)
  ((apply wlpT; exact rfl; exact rfl); (apply pv_move); (intros; exact fS rfl))
  (apply wlpT; exact rfl; exact rfl; exact pf_index (i := 1) rfl rfl rfl hso0 (Nat.le_of_ble_eq_true rfl); exact fP rfl)
  (apply wlpT; exact rfl; exact rfl; exact pf_load rfl rfl (hp.old0 hc1); exact fS rfl)
  ((apply wlpT; exact rfl; exact rfl); (apply pv_move); (intros; exact fS rfl))
  (apply wlsT; exact rfl; exact rfl; exact st_call rfl ent17 rfl (p17 [(1, 2), (1, 2)] [(1, 2), (1, 2)] r1.s (some ⟨wb, 0, none⟩) r1.c 2 _ (hs1.keep0 hp.keeps) (blk_SlAt [(1, 2), (1, 2)] hp 0 rfl (fun _ => rfl)) (by decide) (by decide)); rintro _ w57 ⟨hv, hk⟩; obtain rfl := hv.trans (bool_eq (b := true) (decide_eq_true rfl)); have hp := hp.call hk)
  (apply wlp; exact pv_andT rfl rfl; exact fB rfl)
  (repeat (first | (with_reducible first | apply wpl_nil | apply thenQ_n | apply WP_ret) | (apply wlp; apply pv_assign; exact fB rfl)))
  exact ret_tmp rfl rfl ⟨_, rfl, rfl, hk0.trans hp.keeps (by simp)⟩
end Go.Proofs.YtfjbioghpgmkiaaGreatDoor
/- Plain laws on orders: a number's order is an order, numbers and orders are inverse, a greater number's order is later, both tests agree; no conditions. -/
namespace Go.Proofs.YtfjbioghpgmkiaaGreatDoor
open Go.Dig Go.Eng

/-- a list that rises -/
def Ris (L : List Int) : Prop := L.Pairwise (· < ·)
theorem idn_ris (n : Nat) : Ris (idn n) := by
  unfold Ris idn
  rw [List.pairwise_map]
  exact List.pairwise_lt_range.imp (fun h => by omega)
theorem idn_mem {n : Nat} {x : Int} : x ∈ idn n ↔ 0 ≤ x ∧ x < n := by
  unfold idn
  rw [List.mem_map]
  constructor
  · rintro ⟨i, hi, rfl⟩
    have := List.mem_range.1 hi
    omega
  · rintro ⟨h0, h1⟩
    exact ⟨x.toNat, List.mem_range.2 (by omega), Int.toNat_of_nonneg h0⟩
theorem Ris.nd {L : List Int} (h : Ris L) : L.Nodup := List.Pairwise.imp (fun h e => by omega) h
theorem Ris.erase {L : List Int} (h : Ris L) (i : Nat) : Ris (L.eraseIdx i) := List.Pairwise.sublist (List.eraseIdx_sublist L i) h
theorem erase_perm {L : List Int} {d : Nat} (hd : d < L.length) : (L[d] :: L.eraseIdx d).Perm L := by
  have e : L = L.take d ++ L[d] :: L.drop (d + 1) := by rw [← List.drop_eq_getElem_cons hd, List.take_append_drop]
  have h : (L[d] :: (L.take d ++ L.drop (d + 1))).Perm (L.take d ++ L[d] :: L.drop (d + 1)) := List.perm_middle.symm
  rw [erase_split]
  rwa [← e] at h
theorem dec_perm : ∀ (k : Nat) (L : List Int) (x : Nat), L.length = k → x < fact k → (dec k L x).Perm L
  | 0, L, _, hL, _ => by
    rw [List.eq_nil_of_length_eq_zero hL]
    exact .refl _
  | k + 1, L, x, hL, hx => by
    have hd : x / fact k < L.length := by
      rw [hL]
      exact (Nat.div_lt_iff_lt_mul (fact_pos k)).2 hx
    have hm := Nat.mod_lt x (fact_pos k)
    rw [dec, List.getElem?_eq_getElem hd]
    refine (List.Perm.cons _ (dec_perm k _ _ (by rw [List.length_eraseIdx_of_lt hd]; omega) hm)).trans ?_
    exact erase_perm hd
theorem ord_isO {n x : Nat} (h : x < fact n) : isO n (ordN n x) = true := by
  have hp := dec_perm n (idn n) x (idn_len n) h
  unfold isO
  have h1 : (ordN n x).length = n := ordN_len n x
  rw [decide_eq_true h1, decide_eq_true (show (ordN n x).Nodup from hp.nodup_iff.2 (idn_ris n).nd), Bool.and_true, Bool.true_and, List.all_eq_true]
  intro y hy
  have := idn_mem.1 (hp.mem_iff.1 hy)
  simp [this.1, this.2]
/-- how many elements of a rising list are less than the one at d -/
theorem less_at {L : List Int} (h : Ris L) {d : Nat} (hd : d < L.length) : L.countP (fun y => decide (y < L[d])) = d := by
  have e : L = L.take d ++ L[d] :: L.drop (d + 1) := by rw [← List.drop_eq_getElem_cons hd, List.take_append_drop]
  have hp : (L.take d ++ L[d] :: L.drop (d + 1)).Pairwise (· < ·) := by rw [← e]; exact h
  rw [List.pairwise_append] at hp
  obtain ⟨_, h2, h3⟩ := hp
  have h4 := List.pairwise_cons.1 h2
  have e2 : L.countP (fun y => decide (y < L[d])) = (L.take d ++ L[d] :: L.drop (d + 1)).countP (fun y => decide (y < L[d])) := by rw [← e]
  rw [e2, List.countP_append, List.countP_cons]
  have c1 : (L.take d).countP (fun y => decide (y < L[d])) = d := by
    rw [List.countP_eq_length.2 (fun y hy => decide_eq_true (h3 y hy _ List.mem_cons_self)), List.length_take]
    omega
  have c2 : (L.drop (d + 1)).countP (fun y => decide (y < L[d])) = 0 := by
    rw [List.countP_eq_zero]
    intro y hy
    have := h4.1 y hy
    simp
    omega
  rw [c1, c2]
  simp
theorem less_erase {L : List Int} (h : Ris L) {d : Nat} (hd : d < L.length) : lessC L[d] (L.eraseIdx d) = d := by
  have hp := erase_perm hd
  have h1 := hp.countP_eq (fun y => decide (y < L[d]))
  rw [less_at h hd, List.countP_cons] at h1
  unfold lessC
  simpa using h1
theorem num_dec : ∀ (k : Nat) (L : List Int) (x : Nat), L.length = k → Ris L → x < fact k → num (dec k L x) = x
  | 0, _, x, _, _, hx => by
    have : x = 0 := by unfold fact at hx; omega
    rw [this]
    rfl
  | k + 1, L, x, hL, hR, hx => by
    have hd : x / fact k < L.length := by
      rw [hL]
      exact (Nat.div_lt_iff_lt_mul (fact_pos k)).2 hx
    have hm := Nat.mod_lt x (fact_pos k)
    have hel : (L.eraseIdx (x / fact k)).length = k := by rw [List.length_eraseIdx_of_lt hd]; omega
    rw [dec, List.getElem?_eq_getElem hd]
    show num (L[x / fact k] :: dec k (L.eraseIdx (x / fact k)) (x % fact k)) = x
    rw [num_cons, num_dec k _ _ hel (hR.erase _) hm, dec_len]
    have hp := dec_perm k (L.eraseIdx (x / fact k)) (x % fact k) hel hm
    have hl : lessC L[x / fact k] (dec k (L.eraseIdx (x / fact k)) (x % fact k)) = x / fact k := by
      have h1 := hp.countP_eq (fun y => decide (y < L[x / fact k]))
      have h2 := less_erase hR hd
      unfold lessC at *
      rw [h1]
      exact h2
    rw [hl, Nat.mul_comm]
    exact Nat.div_add_mod x (fact k)
theorem num_ord {n x : Nat} (h : x < fact n) : num (ordN n x) = x := num_dec n (idn n) x (idn_len n) (idn_ris n) h
theorem dec_num : ∀ (l L : List Int), l.Perm L → Ris L → dec l.length L (num l) = l
  | [], L, h, _ => rfl
  | y :: l, L, h, hR => by
    have hy : y ∈ L := h.mem_iff.1 List.mem_cons_self
    obtain ⟨d, hd, rfl⟩ := List.getElem_of_mem hy
    have hp := erase_perm hd
    have hpl : l.Perm (L.eraseIdx d) := (List.perm_cons _).1 (h.trans hp.symm)
    have hl : lessC L[d] l = d := by
      have := hpl.countP_eq (fun z => decide (z < L[d]))
      have h2 := less_erase hR hd
      unfold lessC at *
      rw [this]
      exact h2
    have hn := num_lt l
    have hf := fact_pos l.length
    rw [num_cons, hl, List.length_cons, dec]
    have e1 : (d * fact l.length + num l) / fact l.length = d := by
      rw [Nat.add_comm, Nat.add_mul_div_right _ _ hf, Nat.div_eq_of_lt hn, Nat.zero_add]
    have e2 : (d * fact l.length + num l) % fact l.length = num l := by
      rw [Nat.add_comm, Nat.add_mul_mod_self_right, Nat.mod_eq_of_lt hn]
    rw [e1, e2, List.getElem?_eq_getElem hd, dec_num l _ hpl (hR.erase d)]
    rfl
theorem isO_perm {n : Nat} {l : List Int} (h : isO n l = true) : l.Perm (idn n) := by
  obtain ⟨h1, h2, h3⟩ := isO_facts h
  exact perm_of_sub h3 (fun x hx => idn_mem.2 (h2 x hx)) (by rw [idn_len, h1]; exact Nat.le_refl _)
theorem ord_num {n : Nat} {l : List Int} (h : isO n l = true) : ordN n (num l) = l ∧ num l < fact n := by
  have h1 := (isO_facts h).1
  have h2 := dec_num l (idn n) (isO_perm h) (idn_ris n)
  have h3 := num_lt l
  rw [h1] at h2 h3
  exact ⟨h2, h3⟩
/-- both tests agree -/
theorem isR_isO (n : Nat) (l : List Int) : isR n l = (decide (n ≤ 40) && isO n l) := by
  rw [Bool.eq_iff_iff]
  constructor
  · intro h
    unfold isR at h
    simp only [Bool.and_eq_true, decide_eq_true_eq, List.all_eq_true] at h
    obtain ⟨h1, h2, h3⟩ := h
    have hp : (idn n).Perm l := perm_of_sub (idn_ris n).nd h3 (by rw [idn_len, h1]; exact Nat.le_refl _)
    rw [decide_eq_true h2, Bool.true_and]
    unfold isO
    rw [decide_eq_true h1, decide_eq_true (hp.nodup_iff.1 (idn_ris n).nd), Bool.and_true, Bool.true_and, List.all_eq_true]
    intro y hy
    have := idn_mem.1 (hp.mem_iff.2 hy)
    simp [this.1, this.2]
  · intro h
    simp only [Bool.and_eq_true, decide_eq_true_eq] at h
    unfold isR
    have hp := isO_perm h.2
    rw [decide_eq_true (isO_facts h.2).1, decide_eq_true h.1, Bool.true_and, Bool.true_and, List.all_eq_true]
    intro y hy
    exact decide_eq_true (hp.mem_iff.2 hy)
/-- the one list comes before the other one -/
def lexlt (a b : List Int) : Prop := ∃ i : Nat, a.take i = b.take i ∧ ∃ x y, a[i]? = some x ∧ b[i]? = some y ∧ x < y
theorem dec_lex : ∀ (k : Nat) (L : List Int) (x y : Nat), L.length = k → Ris L → x < y → y < fact k → lexlt (dec k L x) (dec k L y)
  | 0, _, x, y, _, _, hxy, hy => by
    unfold fact at hy
    omega
  | k + 1, L, x, y, hL, hR, hxy, hy => by
    have hf := fact_pos k
    have hx : x < fact (k + 1) := Nat.lt_trans hxy hy
    have hd : x / fact k < L.length := by
      rw [hL]
      exact (Nat.div_lt_iff_lt_mul hf).2 hx
    have hd2 : y / fact k < L.length := by
      rw [hL]
      exact (Nat.div_lt_iff_lt_mul hf).2 hy
    have hle : x / fact k ≤ y / fact k := Nat.div_le_div_right (Nat.le_of_lt hxy)
    rw [dec, dec, List.getElem?_eq_getElem hd, List.getElem?_eq_getElem hd2]
    by_cases he : x / fact k = y / fact k
    · have hm : x % fact k < y % fact k := by
        have a := Nat.div_add_mod x (fact k)
        have b := Nat.div_add_mod y (fact k)
        rw [he] at a
        omega
      obtain ⟨i, h1, u, v, h2, h3, h4⟩ := dec_lex k (L.eraseIdx (y / fact k)) (x % fact k) (y % fact k) (by rw [List.length_eraseIdx_of_lt hd2]; omega) (hR.erase _) hm (Nat.mod_lt _ hf)
      refine ⟨i + 1, ?_, u, v, ?_, ?_, h4⟩
      · simp only [he, List.take_succ_cons, h1]
      · simp only [he, List.getElem?_cons_succ, h2]
      · simp only [List.getElem?_cons_succ, h3]
    · refine ⟨0, rfl, L[x / fact k], L[y / fact k], rfl, rfl, ?_⟩
      exact (List.pairwise_iff_getElem.1 hR) _ _ hd hd2 (by omega)
theorem ord_lex {n x : Nat} (h : x + 1 < fact n) : lexlt (ordN n x) (ordN n (x + 1)) := dec_lex n (idn n) x (x + 1) (idn_len n) (idn_ris n) (Nat.lt_succ_self _) h
theorem dec_last : ∀ (k : Nat) (L : List Int), L.length = k → dec k L (fact k - 1) = L.reverse
  | 0, L, hL => by
    rw [List.eq_nil_of_length_eq_zero hL]
    rfl
  | k + 1, L, hL => by
    have hf := fact_pos k
    have e0 : fact (k + 1) - 1 = k * fact k + (fact k - 1) := by
      rw [fact_succ, Nat.succ_mul]
      omega
    have e1 : (fact (k + 1) - 1) / fact k = k := by
      rw [e0, Nat.add_comm, Nat.add_mul_div_right _ _ hf, Nat.div_eq_of_lt (by omega), Nat.zero_add]
    have e2 : (fact (k + 1) - 1) % fact k = fact k - 1 := by
      rw [e0, Nat.add_comm, Nat.add_mul_mod_self_right, Nat.mod_eq_of_lt (by omega)]
    rw [dec, e1, e2, dec_last k _ (by rw [List.length_eraseIdx_of_lt (by omega)]; omega), List.getElem?_eq_getElem (by omega)]
    have e : L = L.take k ++ [L[k]] := by
      rw [← List.take_succ_eq_append_getElem (by omega), List.take_of_length_le (by omega)]
    have e3 : L.eraseIdx k = L.take k := by
      rw [erase_split, List.drop_eq_nil_of_le (by omega), List.append_nil]
    rw [e3]
    conv => rhs; rw [e, List.reverse_append]
    rfl
theorem ord_last (n : Nat) : ordN n (fact n - 1) = (idn n).reverse := dec_last n (idn n) (idn_len n)
/-! all orders -/
theorem os_mem {n : Nat} {o : List Int} : o ∈ osT n (fact n) ↔ isO n o = true := by
  unfold osT
  rw [List.mem_map]
  constructor
  · rintro ⟨t, ht, rfl⟩
    exact ord_isO (List.mem_range.1 ht)
  · intro h
    obtain ⟨h1, h2⟩ := ord_num h
    exact ⟨num o, List.mem_range.2 h2, h1⟩
theorem os_nd (n : Nat) : (osT n (fact n)).Nodup := by
  unfold osT List.Nodup
  rw [List.pairwise_map]
  have h : (List.range (fact n)).Pairwise (fun a b => a ∈ List.range (fact n) ∧ b ∈ List.range (fact n) ∧ a < b) := by
    rw [List.pairwise_iff_getElem]
    intro i j hi hj hij
    exact ⟨List.getElem_mem hi, List.getElem_mem hj, by simpa using hij⟩
  refine h.imp ?_
  rintro a b ⟨ha, hb, hlt⟩ he
  have h1 := num_ord (List.mem_range.1 ha)
  have h2 := num_ord (List.mem_range.1 hb)
  rw [he, h2] at h1
  omega
/-- a map of the orders that can be undone leaves counts as they are -/
theorem os_map {n : Nat} {f : List Int → List Int} (hf : ∀ o, isO n o = true → isO n (f o) = true) (hi : ∀ o o', isO n o = true → isO n o' = true → f o = f o' → o = o') (p : List Int → Bool) : (osT n (fact n)).countP (fun o => p (f o)) = (osT n (fact n)).countP p := by
  have hn : ((osT n (fact n)).map f).Nodup := by
    unfold List.Nodup
    rw [List.pairwise_map]
    have h : (osT n (fact n)).Pairwise (fun a b => a ∈ osT n (fact n) ∧ b ∈ osT n (fact n) ∧ a ≠ b) := by
      rw [List.pairwise_iff_getElem]
      intro i j hi hj hij
      exact ⟨List.getElem_mem hi, List.getElem_mem hj, List.pairwise_iff_getElem.1 (os_nd n) i j hi hj hij⟩
    refine h.imp ?_
    rintro a b ⟨ha, hb, hne⟩ he
    exact hne (hi a b (os_mem.1 ha) (os_mem.1 hb) he)
  have hp : ((osT n (fact n)).map f).Perm (osT n (fact n)) := perm_of_sub hn (fun o ho => by
    obtain ⟨o', ho', rfl⟩ := List.mem_map.1 ho
    exact os_mem.2 (hf o' (os_mem.1 ho'))) (by rw [List.length_map]; exact Nat.le_refl _)
  have := hp.countP_eq p
  rw [List.countP_map] at this
  exact this
end Go.Proofs.YtfjbioghpgmkiaaGreatDoor
/- An append onto a slice that is full, a slice with its bound, and how they are read; conditions are the hypotheses of each law. -/
namespace Go.Proofs.YtfjbioghpgmkiaaGreatDoor
open Go.Eng Go.Dig

section
variable {n : FrK} {w w0 : World} {M : List Nat} {L : List Ent} {F : Fr} {d : Option Tmp} {ty : TypeId} {pos : String} {aft : Array Edge} {g : Option (Nat × Bool)} {x y : Operand}
theorem sf_appFull {α : Type} (enc : α → List Value) (l : List α) (xv : α) {t e k by_ b : Nat} {z : Value} {s : Option Addr} (hp : Hp w0 M w L) (j : Nat) (ht : slTy t = some (e, k)) (hby : byteTy e = some by_) (hz : zeroTy e = some z)
    (hzs : z.cells.size = k) (_hpos : Nat.blt 0 k = true) (hb : Nat.ble by_ 1000 = true) (hk : ∀ x, (enc x).length = k) (hx : ev n F x = .slice s l.length l.length) (hy : ev n F y = .slice (some ⟨b, 0, none⟩) 1 1)
    (hs : SlAt w k enc s l) (hsn : s = none → l = []) (hs0 : ∀ a, s = some a → a.spot = none) (hj : L[j]? = some (blk b (enc xv).length (frOf (enc xv)) e)) (hlen : l.length < 1000000) :
    StepF Tryz.prog n ⟨d, .call ⟨.builtin .append, #[x, y], #[t, t]⟩, ty, pos, aft, g⟩ F w
      (fun u w' => ∃ gb c', u = .slice (some ⟨gb, 0, none⟩) (l ++ [xv]).length c' ∧ SVL (some ⟨gb, 0, none⟩) c' (l ++ [xv]) ∧ Hp w0 M w' (ownL enc e k (some ⟨gb, 0, none⟩) c' (l ++ [xv]) :: L)) := by
  have htu := (slTy_ok ht).1
  have hts := (slTy_ok ht).2
  obtain ⟨inf, hinf, hib⟩ := (byteTy_ok hby).ex
  have his : inf.size = k := by
    unfold TSize at hts
    simpa [hinf] using hts
  have hiz : inf.zero = some z := by
    have := zeroTy_ok hz
    unfold TZero at this
    simpa [hinf] using this
  have hb' := Nat.le_of_ble_eq_true hb
  have hbb : (l.length + 1) * inf.bytes ≤ 140737488355328 := by
    rw [hib]
    have : (l.length + 1) * by_ ≤ 1000000 * 1000 := Nat.mul_le_mul (by omega) hb'
    omega
  have hnl : (enc xv).length = 1 * inf.size := by rw [hk, his, Nat.one_mul]
  have hnews : ∀ q v, (enc xv)[q]? = some v → w.cell? ((⟨b, 0, none⟩ : Addr).add q) = some v := by
    intro q v hv
    obtain ⟨b', o', e1, e2⟩ := blk_src hp j hj q v hv
    cases e1
    rw [addr_add]
    exact e2
  have hlo : (l.flatMap enc).length = l.length * inf.size := by rw [flatMap_len enc k hk l, his]
  obtain ⟨cap, hcap⟩ : ∃ cap, cap = grownCap w (l.length + 1) l.length e := ⟨_, rfl⟩
  have hge : l.length + 1 ≤ cap := by rw [hcap]; exact grownCap_ge w (l.length + 1) l.length e
  have hcm : cap ≤ maxLen := by rw [hcap]; exact grownCap_le_maxLen w (l.length + 1) l.length e (by unfold maxLen; omega)
  have hll : (l ++ [xv]).length = l.length + 1 := by simp
  have hrun : (Builtin.append_ #[t, t] ty #[.slice s l.length l.length, .slice (some ⟨b, 0, none⟩) 1 1]).run Tryz.prog w =
      .ok (.slice (some ⟨w.heap.size, 0, none⟩) (l.length + 1) cap) (w.drew.alloc (.cells ((l.flatMap enc).toArray ++ (enc xv).toArray ++ Builtin.zeroCells z.cells (cap - (l.length + 1))) e)) := by
    cases s with
    | none =>
      have := hsn rfl
      subst this
      have := run_append_nil (P := Tryz.prog) w t ty e inf z htu hinf hiz ⟨b, 0, none⟩ 1 1 (enc xv) hnl hnews (by decide) (by decide) (by simp at hbb; omega)
      simpa [hcap] using this
    | some a =>
      have holds : ∀ q v, (l.flatMap enc)[q]? = some v → w.cell? (a.add q) = some v := by
        intro q v hv
        obtain ⟨b', o', e1, e2⟩ := hs.src hk q v hv
        cases e1
        rw [addr_add]
        exact e2
      rw [hcap]
      exact run_append_grow (P := Tryz.prog) w t ty e inf z htu hinf hiz a l.length l.length (l.flatMap enc) hlo holds ⟨b, 0, none⟩ 1 1 (enc xv) hnl hnews (by omega) (by omega) (growslice_fits (by omega) hbb)
  refine stepF_val (v := .slice (some ⟨w.heap.size, 0, none⟩) (l.length + 1) cap) (w' := w.drew.alloc (.cells ((l.flatMap enc).toArray ++ (enc xv).toArray ++ Builtin.zeroCells z.cells (cap - (l.length + 1))) e)) ?_ ⟨w.heap.size, cap, by rw [hll], .inr ⟨w.heap.size, cap, by rw [hll], by rw [hll]; exact hge, hcm⟩, ?_⟩
  · simp only [execOp, resolve, Sem.run_bind, Sem.run_pure, Result.andThen_ok, invoke, builtin]
    simp [hx, hy, hrun]
  · have h := hp.drew.alloc (.cells ((l.flatMap enc).toArray ++ (enc xv).toArray ++ Builtin.zeroCells z.cells (cap - (l.length + 1))) e) (φ := rowB e k cap (l ++ [xv]).length ((l ++ [xv]).flatMap enc)) ⟨_, rfl, ?_, ?_⟩
    · exact h
    · rw [Array.size_append, Array.size_append, List.size_toArray, List.size_toArray, size_zeroCells, hzs, hlo, hnl, his, ← Nat.add_mul, ← Nat.add_mul, Nat.add_sub_of_le hge]
    · have hfl : (l ++ [xv]).flatMap enc = l.flatMap enc ++ enc xv := by simp
      simp only [Array.toList_append, List.append_assoc]
      rw [← List.append_assoc, hfl]
      have : (l ++ [xv]).length * k = (l.flatMap enc ++ enc xv).length := by
        rw [hll, List.length_append, hlo, hnl, his, ← Nat.add_mul]
      rw [this]
      exact List.take_left
theorem pv_slice3hi {t e k m c h : Nat} {q q' : IntKind} {s : Option Addr} {hi mx : Operand} (ht : Tryz.prog.underlying t = some (.slice e)) (hk : TSize Tryz.prog e k) (hx : ev n F x = .slice s m c) (hh : ev n F hi = .int q h) (hm : ev n F mx = .int q' h) (h1 : h ≤ c) :
    PV Tryz.prog n w F ⟨d, .slice t x none (some hi) (some mx), ty, pos, aft, g⟩ (.slice s h h) := by
  have hb1 := run_bound (P := Tryz.prog) (w := w) (c := .slice3Acap) hm h1
  have hb2 := run_bound (P := Tryz.prog) (w := w) (c := .slice3B) hh (Nat.le_refl h)
  have e1 : (if h = 0 then s else s.map (·.add (0 * k))) = s := by
    split
    · rfl
    · cases s <;> simp [addr_add0]
  simp only [PV, execOp, Instr.sliceAt, Instr.slice, hx, Sem.run_bind, run_und ht, Result.andThen_ok, Instr.sliceBounds, Sem.run_pure, Option.map_none, Option.map_some, hb1, hb2, hk.run, if_true, Nat.sub_zero, e1]
end
end Go.Proofs.YtfjbioghpgmkiaaGreatDoor
/- Small facts about the plan; conditions are the hypotheses of each law. -/
namespace Go.Proofs.YtfjbioghpgmkiaaGreatDoor
open Go.Eng Go.Dig

theorem mkP_le {lp : List (Int × Int)} (h : ∀ p ∈ lp, p.2 ≤ 9223372036854775807) : ∀ p ∈ (lp.take 6).map mkP, p.2 ≤ 9223372036854775807 := by
  intro p hp
  obtain ⟨q, hq, rfl⟩ := List.mem_map.1 hp
  exact h q (List.mem_of_mem_take hq)
theorem mkP_len (lp : List (Int × Int)) : ((lp.take 6).map mkP).length ≤ 12 := by
  rw [List.length_map, List.length_take]
  omega
theorem mkE_len {l : List En} {le : List Pe} (h : l.map evE = (le.take 8).mapIdx mkEV) : l.length ≤ 8 := by
  have := congrArg List.length h
  rw [List.length_map, List.length_mapIdx, List.length_take] at this
  omega
theorem svl_none {so : Option Addr} {co : Nat} {o : List Int} (h : SVL so co o) : so = none → o = [] := fun hn => by
  cases o with
  | nil => rfl
  | cons a b => obtain ⟨g, hg⟩ := h.addr (by simp); rw [hg] at hn; cases hn
end Go.Proofs.YtfjbioghpgmkiaaGreatDoor
/- A stable sort is sorted; those who are related are of one class; plain. -/
namespace Go.Proofs.YtfjbioghpgmkiaaGreatDoor
open Go.Eng Go.Dig

theorem insV_desc (c : Int → Int) (x : Int) : ∀ r : List Int, r.Pairwise (fun a b => c b ≤ c a) → (insV c r x).Pairwise (fun a b => c b ≤ c a)
  | [], _ => by simp [insV]
  | y :: r, h => by
    have h2 := List.pairwise_cons.1 h
    rw [insV]
    by_cases hxy : c x < c y
    · rw [if_pos hxy, List.pairwise_cons]
      refine ⟨fun z hz => ?_, insV_desc c x r h2.2⟩
      rcases List.mem_cons.1 ((insV_perm c x r).mem_iff.1 hz) with rfl | hz
      · omega
      · exact h2.1 z hz
    · rw [if_neg hxy, List.pairwise_cons]
      refine ⟨fun z hz => ?_, h⟩
      rcases List.mem_cons.1 hz with rfl | hz
      · omega
      · have := h2.1 z hz
        omega
theorem sv_desc (c : Int → Int) : ∀ l : List Int, (sv c l).Pairwise (fun a b => c b ≤ c a)
  | [] => List.Pairwise.nil
  | x :: r => insV_desc c x _ (sv_desc c r)
theorem srt_asc (c : Int → Int) (l : List Int) : (srt c l).Pairwise (fun a b => c a ≤ c b) := by
  unfold srt
  rw [List.pairwise_reverse]
  exact sv_desc c _

theorem relF_cls {l : List En} {a b : Int} (h : relF l a b = true) : clsF l a = clsF l b := by
  unfold relF at h
  unfold clsF
  cases ha : l[a.toNat]? with
  | none => rw [ha] at h; cases h
  | some x =>
    cases hb : l[b.toNat]? with
    | none => rw [ha, hb] at h; cases h
    | some y =>
      rw [ha, hb] at h
      unfold relB at h
      simp only [Bool.and_eq_true, decide_eq_true_eq] at h
      exact h.2.2

end Go.Proofs.YtfjbioghpgmkiaaGreatDoor
/- How the arguments of the laws of layer 19 are read; a world in which the listed tables lie; what a law that answers true and changes nothing leaves; conditions are the hypotheses of each law. -/
namespace Go.Proofs.YtfjbioghpgmkiaaGreatDoor
open Go.Eng Go.ChangeShapes Go.WideShapes Go.ChangeAt Go.RowKit Go.Deep

theorem laid : laidOutB Tryz.prog = true := by kernel_rfl
theorem ownK : ownKnob Tryz.prog.godebug = none := by kernel_rfl

theorem spot_none {w : World} {a : Addr} {v : Value} (h : w.cell? a = some v) : a.spot = none := by
  unfold World.cell? at h
  split at h
  · split at h
    · cases h
    · rename_i h2
      cases hs : a.spot
      · rfl
      · rw [hs] at h2; simp at h2
  · cases h

section
variable {H : Type} {enc : TypeId × Value → H} {P : Program} {w : World} {base : Nat} {spare : Nat → Bool} {held : Bool}

/-- a slice whose elements are read one by one reads as a list -/
theorem open_list {α : Type} {f : α → List Value} {ok : α → Prop} {t e k fuel : Nat} {cs : List Value} {x : DataW H × List MemPlace} (ht : P.underlying t = some (.slice e)) (hk : P.cellsOf e = k) (hk0 : 0 < k)
    (hop : ∀ n cs' y, DataW.trod enc P w base spare held n e cs' = some y → ∃ a, cs' = f a ∧ ok a) (h : DataW.trod enc P w base spare held fuel t cs = some x) :
    ∃ s c, ∃ l : List α, cs = [.slice s l.length c] ∧ l.length ≤ c ∧ c ≤ maxLen ∧ SlAt w k f s l ∧ (∀ a ∈ l, ok a) ∧ (l = [] ∨ ∃ es rs, x.1 = .slice es rs ∧ es.length = l.length) := by
  rcases open_slice ht h with ⟨rfl, _⟩ | ⟨a, len, cap, m, n, D, Pl, rfl, hb, hl, hm, hmm, hxe, hx⟩
  · exact ⟨none, 0, [], rfl, Nat.le_refl _, by unfold maxLen; omega, by intro i x hx; simp at hx, by simp, .inl rfl⟩
  · have hlm : len ≤ m := by rw [hmm]; split <;> omega
    rw [hk] at hx
    have hex : ∀ i : Fin len, ∃ y, w.cells? base (a.add (i * k)) k = some (f y) ∧ ok y := by
      intro i
      obtain ⟨cs', h1, h2⟩ := hx i (by omega)
      obtain ⟨y, rfl, hy⟩ := hop _ _ _ h2
      exact ⟨y, h1, hy⟩
    refine ⟨some a, cap, List.ofFn fun i => Classical.choose (hex i), by simp, by simpa using hl, hm, ?_, ?_, .inr ⟨_, _, by rw [hxe], by simp⟩⟩
    · intro i y hy
      have hi : i < len := by have := (List.getElem?_eq_some_iff.1 hy).1; simpa using this
      have hyc : Classical.choose (hex ⟨i, hi⟩) = y := by
        rw [List.getElem?_ofFn] at hy
        simpa [hi] using hy
      have hsp := (Classical.choose_spec (hex ⟨i, hi⟩)).1
      rw [hyc] at hsp
      obtain ⟨_, hlen, hc⟩ := World.cells?_some hsp
      obtain ⟨_, hlen0, hc0⟩ := World.cells?_some (Classical.choose_spec (hex ⟨0, by omega⟩)).1
      have hs0 := spot_none ((hc0 0 (by omega)).trans (List.getElem?_eq_getElem (by omega)))
      have hsa : a.spot = none := by simpa [Addr.add] using hs0
      refine ⟨a.block, a.off, ?_, fun j v hv => ?_⟩
      · cases a
        simp at hsa
        subst hsa
        rfl
      · have hj : j < k := by rw [← hlen]; exact (List.getElem?_eq_some_iff.1 hv).1
        have := (hc j hj).trans hv
        cases a
        simp at hsa
        subst hsa
        rw [addr_add, addr_add] at this
        exact this
    · intro y hy
      rw [List.mem_ofFn] at hy
      obtain ⟨i, rfl⟩ := hy
      exact (Classical.choose_spec (hex i)).2

theorem trodAll_stays (hl : laidOutB P = true) {W W' : World} (hb : Below W.heap.size W W') {sp : Nat → Bool} : ∀ (ts : List TypeId) (vs : List Value) (ds : List (DataW H)) (ps : List MemPlace),
    (∀ t ∈ ts, P.readableRec t = true ∧ t < P.types.size) → DataW.TrodAll enc P W 0 (fun _ => true) true ts vs ds ps → (∀ x ∈ ps, x.block < W.heap.size) → (∀ x ∈ ps, sp x.block = true) →
    DataW.TrodAll enc P W' 0 sp true ts vs ds ps
  | [], vs, ds, ps, _, h, _, _ => by
    obtain ⟨rfl, rfl, rfl⟩ := trodAll_nil h
    exact trodAll_mk0
  | t :: ts, vs, ds, ps, ht, h, hlt, hsp => by
    obtain ⟨v, vs', d, ds', p, q, rfl, rfl, rfl, h1, h2⟩ := trodAll_cons h
    refine ⟨p, q, ?_, trodAll_stays hl hb ts vs' ds' q (fun t h => ht t (List.mem_cons_of_mem _ h)) h2 (fun x hx => hlt x (List.mem_append_right _ hx)) (fun x hx => hsp x (List.mem_append_right _ hx)), rfl⟩
    obtain ⟨hr, hrow⟩ := ht t (List.mem_cons_self ..)
    exact WideElems.Trod_stays hl hr hrow h1 (fun x hx => hb.same (hlt x (List.mem_append_left _ hx))) (fun x hx => hsp x (List.mem_append_left _ hx))
end

/-- an array whose elements are read one by one -/
theorem arr_list {α : Type} {f : α → List Value} {ok : α → Prop} {sz : Nat} : ∀ (k : Nat) (cs : List Value), cs.length = k * sz → (∀ i, i < k → ∃ a, (cs.drop (i * sz)).take sz = f a ∧ ok a) → ∃ l : List α, l.length = k ∧ cs = l.flatMap f ∧ ∀ a ∈ l, ok a
  | 0, cs, hl, _ => ⟨[], rfl, by simpa using hl, by simp⟩
  | k + 1, cs, hl, h => by
    obtain ⟨a, ha, hoa⟩ := h 0 (by omega)
    obtain ⟨l, h1, h2, h3⟩ := arr_list (f := f) (ok := ok) (sz := sz) k (cs.drop sz) (by rw [List.length_drop, hl, Nat.succ_mul]; omega) (by
      intro i hi
      obtain ⟨b, hb, hob⟩ := h (i + 1) (by omega)
      refine ⟨b, ?_, hob⟩
      rw [List.drop_drop]
      rw [show sz + i * sz = (i + 1) * sz from by rw [Nat.succ_mul]; omega]
      exact hb)
    refine ⟨a :: l, by simp [h1], ?_, ?_⟩
    · rw [List.flatMap_cons, ← h2, ← ha]
      simp
    · intro x hx
      rcases List.mem_cons.1 hx with rfl | hx
      · exact hoa
      · exact h3 x hx
section
variable {H : Type} {enc : TypeId × Value → H} {P : Program} {w : World} {base : Nat} {spare : Nat → Bool} {held : Bool}
theorem open_arr {α : Type} {f : α → List Value} {ok : α → Prop} {t e k sz fuel : Nat} {cs : List Value} {x : DataW H × List MemPlace} (ht : P.underlying t = some (.array k e)) (he : P.cellsOf e = sz) (hc : P.cellsOf t = k * sz)
    (hop : ∀ n cs' y, DataW.trod enc P w base spare held n e cs' = some y → ∃ a, cs' = f a ∧ ok a) (h : DataW.trod enc P w base spare held fuel t cs = some x) :
    ∃ l : List α, l.length = k ∧ cs = l.flatMap f ∧ ∀ a ∈ l, ok a := by
  obtain ⟨xs, m, _, _, hl, hlen, hf⟩ := DataW.trod_array ht h
  refine arr_list k cs (by rw [hl, hc]) fun i hi => ?_
  have := hf i hi
  rw [he, List.getElem?_eq_getElem (by omega)] at this
  exact hop _ _ _ this
end
/-- what a law leaves that answers true and keeps all that was there -/
theorem post_true {H : Type} {enc : TypeId × Value → H} {f : Func} {s : ChangeSpec} {W W' : World} {args : Array Value} {ds gs : List (DataW H)} {before : List MemPlace} (hW : DataW.Whole enc Tryz.prog f.params.toList s.vars false W args.toList ds gs before)
    (hv : s.vars = []) (hr : f.resultTypes = #[4]) (hts : ∀ t ∈ f.params.toList, Tryz.prog.readableRec t = true ∧ t < Tryz.prog.types.size)
    (hres : (s.fn H (ds ++ gs)).results = [.lit (.bool true)]) (hargs : (s.fn H (ds ++ gs)).args = ds) (hvs : (s.fn H (ds ++ gs)).vars = []) (hk : Keeps [] W W') :
    s.post enc Tryz.prog f false true false false W args (.bool true) W' := by
  have hW' := hW
  obtain ⟨p, q, hA, hV, rfl, hfz, hnd⟩ := hW
  rw [hv] at hV
  obtain ⟨rfl, rfl⟩ := trodVars_none hV
  have hlt : ∀ x ∈ p, x.block < W.heap.size := fun x hx => hW'.lt x (by simpa using hx)
  refine ⟨ds, [], _, [], p, [], hW', ?_, ?_, ?_, (hk.below.frame _), fun h => by cases h⟩
  · rw [hres, hr]
    exact trodAll_cons_mk (shut_bool Tryz.underlying4 _) trodAll_mk0
  · rw [hargs]
    exact trodAll_stays laid hk.below _ _ _ _ hts hA hlt (fun x hx => by simpa using hlt x hx)
  · rw [hvs, hv]
    rfl

theorem len2 {α : Type} {l : List α} (h : l.length = 2) : ∃ c0 c1, l = [c0, c1] := by
  obtain ⟨c0, l0, rfl⟩ : ∃ a t, l = a :: t := List.exists_cons_of_length_eq_add_one h
  obtain ⟨c1, l1, rfl⟩ : ∃ a t, l0 = a :: t := List.exists_cons_of_length_eq_add_one (by simpa using h)
  have : l1 = [] := List.eq_nil_of_length_eq_zero (by simpa using h)
  subst this
  exact ⟨c0, c1, rfl⟩
theorem len3 {α : Type} {l : List α} (h : l.length = 3) : ∃ c0 c1 c2, l = [c0, c1, c2] := by
  obtain ⟨c0, l0, rfl⟩ : ∃ a t, l = a :: t := List.exists_cons_of_length_eq_add_one h
  obtain ⟨c1, l1, rfl⟩ : ∃ a t, l0 = a :: t := List.exists_cons_of_length_eq_add_one (by simpa using h)
  obtain ⟨c2, l2, rfl⟩ : ∃ a t, l1 = a :: t := List.exists_cons_of_length_eq_add_one (by simpa using h)
  have : l2 = [] := List.eq_nil_of_length_eq_zero (by simpa using h)
  subst this
  exact ⟨c0, c1, c2, rfl⟩
section
variable {H : Type} {enc : TypeId × Value → H} {w : World} {base : Nat} {spare : Nat → Bool} {held : Bool} {n : Nat} {cs : List Value} {x : DataW H × List MemPlace}
theorem rd_int (h : DataW.trod enc Tryz.prog w base spare held n 3 cs = some x) : ∃ a : Int, cs = eI a ∧ -9223372036854775808 ≤ a ∧ a ≤ 9223372036854775807 := by
  obtain ⟨a, rfl, _, hw⟩ := DataW.trod_int Tryz.underlying3 h
  have e1 : IntKind.i64.min = -9223372036854775808 := by decide
  have e2 : IntKind.i64.max = 9223372036854775807 := by decide
  simp only [Lit.wf, Bool.and_eq_true, decide_eq_true_eq, e1, e2] at hw
  exact ⟨a, rfl, hw⟩
theorem rd_ints (h : DataW.trod enc Tryz.prog w base spare held n 30 cs = some x) : ∃ s c, ∃ l : List Int, cs = [.slice s l.length c] ∧ l.length ≤ c ∧ c ≤ maxLen ∧ SlAt w 1 eI s l ∧ (∀ a ∈ l, -9223372036854775808 ≤ a ∧ a ≤ 9223372036854775807) ∧ (l = [] ∨ ∃ es rs, x.1 = .slice es rs ∧ es.length = l.length) :=
  open_list Tryz.underlying30 (by kernel_rfl) (by decide) (fun _ _ _ h => rd_int h) h
end
/-- how long a list that came in can be -/
theorem sized_list {H α : Type} {ts : List TypeId} {ds : List (DataW H)} {l : List α} {j t e k : Nat} {d : DataW H} (h : (DataW.weightsEach Tryz.prog ts ds).all (· ≤ reachBytes) = true) (ht : ts[j]? = some t) (hd : ds[j]? = some d) (hu : Tryz.prog.underlying t = some (.slice e)) (hk : Tryz.prog.bytesOf e = k)
    (hx : l = [] ∨ ∃ es rs, d = .slice es rs ∧ es.length = l.length) : l.length * k ≤ 140737488351232 := by
  rcases hx with rfl | ⟨es, rs, rfl, he⟩
  · simp
  · have h1 := sized_slice h ht hd hu
    rw [hk] at h1
    have h2 : l.length * k ≤ (es.length + rs.length) * k := Nat.mul_le_mul_right k (by omega)
    exact Nat.le_trans h2 h1
/-! ### the tables -/
def cellsL : DataW Unit → List Value
  | .lit (.int k n) => [.int k n]
  | .agg [.lit (.int k n), .lit (.int q m)] => [.int k n, .int q m]
  | _ => []
def cellsA : DataW Unit → Array Value
  | .agg l => (l.flatMap cellsL).toArray
  | _ => #[]
noncomputable def laidWorld (os : Os) : World :=
  let w0 := World.holding Tryz.prog os ⟨#[], #[], []⟩
  { w0 with heap := (w0.heap.modify 0 fun
      | .cells _ t fr => .cells (cellsA Rows.laid_unicode_utf8_first) t fr
      | o => o).modify 1 fun
      | .cells _ t fr => .cells (cellsA Rows.laid_unicode_utf8_acceptRanges) t fr
      | o => o }
set_option maxRecDepth 100000 in
theorem laidWorld_met (os : Os) (args : Array Value) : laidMetH Tryz.prog Rows.placesKeepsRow.laid ((laidWorld os).forCall (fun _ _ => 0) ⟨#[], args, []⟩).memory :=
  laidMet_of_run (ps := (List.range 32).map (fun i => MemPlace.cell 1 i) ++ (List.range 256).map (fun i => MemPlace.cell 0 i)) 8 (by kernel_rfl) (by kernel_rfl) (by kernel_rfl)
theorem agg_of_cells {v : Value} {l : List Value} (h : v.cells.toList = l) (hl : 2 ≤ l.length) : v = .agg l.toArray := by
  cases v with
  | agg vs =>
    have : vs.toList = l := h
    subst this
    rfl
  | _ =>
    exfalso
    subst h
    simp [Value.cells] at hl
theorem slice_of_cells {P : Program} {W : World} {base t e : Nat} {v : Value} {s : Option Addr} {m c : Nat} (ht : P.underlying t = some (.slice e)) (hok : Value.okWide P W .any base t v) (h : v.cells.toList = [.slice s m c]) : v = .slice s m c := by
  cases v with
  | agg vs => simp [Value.okWide, ht, Cell.okWide, Cell.ok] at hok
  | slice a1 b1 c1 =>
    have e : Value.slice a1 b1 c1 = .slice s m c := by simpa [Value.cells] using h
    exact e
  | _ => simp [Value.cells] at h

/-! ### further kinds of arguments -/
theorem cells3 : Tryz.prog.cellsOf 3 = 1 := by kernel_rfl
theorem cells5 : Tryz.prog.cellsOf 5 = 1 := by kernel_rfl
theorem cells22 : Tryz.prog.cellsOf 22 = 1 := by kernel_rfl
theorem cells23 : Tryz.prog.cellsOf 23 = 1 := by kernel_rfl
theorem cells30 : Tryz.prog.cellsOf 30 = 1 := by kernel_rfl
theorem cells84 : Tryz.prog.cellsOf 84 = 2 := by kernel_rfl
theorem cells87 : Tryz.prog.cellsOf 87 = 3 := by kernel_rfl
theorem cells25 : Tryz.prog.cellsOf 25 = 2 := by kernel_rfl
section
variable {H : Type} {enc : TypeId × Value → H} {w : World} {base : Nat} {spare : Nat → Bool} {held : Bool} {n : Nat} {cs : List Value} {x : DataW H × List MemPlace}
def e3 (x : Int × Int × Int) : List Value := [.int .i64 x.1, .int .i64 x.2.1, .int .i64 x.2.2]
theorem rd_arr3 (h : DataW.trod enc Tryz.prog w base spare held n 78 cs = some x) : ∃ a : Int × Int × Int, cs = e3 a ∧ a.1 ≤ 9223372036854775807 := by
  obtain ⟨l, hl, rfl, hb⟩ := open_arr Tryz.underlying78 cells3 (by kernel_rfl) (fun _ _ _ h => rd_int h) h
  obtain ⟨a, b, c, rfl⟩ := len3 hl
  exact ⟨(a, b, c), rfl, (hb a (by simp)).2⟩
theorem rd_arr2 (h : DataW.trod enc Tryz.prog w base spare held n 84 cs = some x) : ∃ a : Int × Int, cs = eT2 a ∧ a.2 ≤ 9223372036854775807 := by
  obtain ⟨l, hl, rfl, hb⟩ := open_arr Tryz.underlying84 cells3 (by kernel_rfl) (fun _ _ _ h => rd_int h) h
  obtain ⟨a, b, rfl⟩ := len2 hl
  exact ⟨(a, b), rfl, (hb b (by simp)).2⟩
theorem rd_list2 (h : DataW.trod enc Tryz.prog w base spare held n 22 cs = some x) : ∃ s c, ∃ l : List (Int × Int), cs = [.slice s l.length c] ∧ l.length ≤ c ∧ c ≤ maxLen ∧ SlAt w 2 eT2 s l ∧ (∀ p ∈ l, p.2 ≤ 9223372036854775807) := by
  obtain ⟨s, c, l, h1, h2, h3, h4, h5, _⟩ := open_list Tryz.underlying22 cells84 (by decide) (fun _ _ _ h => rd_arr2 h) h
  exact ⟨s, c, l, h1, h2, h3, h4, h5⟩
theorem rd_u8 (h : DataW.trod enc Tryz.prog w base spare held n 5 cs = some x) : ∃ a : Nat, cs = eB a ∧ a < 256 := by
  obtain ⟨a, rfl, _, hw⟩ := DataW.trod_int Tryz.underlying5 h
  have e1 : IntKind.u8.min = 0 := by decide
  have e2 : IntKind.u8.max = 255 := by decide
  simp only [Lit.wf, Bool.and_eq_true, decide_eq_true_eq, e1, e2] at hw
  obtain ⟨k, rfl⟩ : ∃ k : Nat, a = k := ⟨a.toNat, by omega⟩
  exact ⟨k, rfl, by omega⟩
theorem rd_bytes (h : DataW.trod enc Tryz.prog w base spare held n 61 cs = some x) : ∃ s c, ∃ l : List Nat, cs = [.slice s l.length c] ∧ l.length ≤ c ∧ c ≤ maxLen ∧ SlAt w 1 eB s l ∧ (∀ a ∈ l, a < 256) ∧ (l = [] ∨ ∃ es rs, x.1 = .slice es rs ∧ es.length = l.length) :=
  open_list Tryz.underlying61 cells5 (by decide) (fun _ _ _ h => rd_u8 h) h
theorem rd_person (h : DataW.trod enc Tryz.prog w base spare held n 87 cs = some x) : ∃ p : Pe, cs = ePe p ∧ SlAt w 1 eI p.ws p.wl := by
  obtain ⟨xs, m, _, _, hl, hlen, hf⟩ := DataW.trod_struct Tryz.underlying87 h
  rw [cells87] at hl
  obtain ⟨c0, c1, c2, rfl⟩ := len3 hl
  have h0 : DataW.trod enc Tryz.prog w base spare held m 3 (([c0, c1, c2].drop 0).take (Tryz.prog.cellsOf 3)) = xs[0]? := hf 0 _ rfl
  rw [cells3] at h0
  have h1 : DataW.trod enc Tryz.prog w base spare held m 3 (([c0, c1, c2].drop 1).take (Tryz.prog.cellsOf 3)) = xs[1]? := hf 1 _ rfl
  rw [cells3] at h1
  have h2 : DataW.trod enc Tryz.prog w base spare held m 30 (([c0, c1, c2].drop 2).take (Tryz.prog.cellsOf 30)) = xs[2]? := hf 2 _ rfl
  rw [cells30] at h2
  simp at hlen
  obtain ⟨a, e0, _⟩ := rd_int (h0.trans (List.getElem?_eq_getElem (by omega)))
  obtain ⟨b, e1, _⟩ := rd_int (h1.trans (List.getElem?_eq_getElem (by omega)))
  obtain ⟨s, c, l, e2, _, _, hs, _⟩ := rd_ints (h2.trans (List.getElem?_eq_getElem (by omega)))
  simp [eI] at e0 e1 e2
  subst e0 e1 e2
  exact ⟨⟨a, b, s, c, l⟩, rfl, hs⟩
theorem rd_people (h : DataW.trod enc Tryz.prog w base spare held n 23 cs = some x) : ∃ s c, ∃ l : List Pe, cs = [.slice s l.length c] ∧ l.length ≤ c ∧ c ≤ maxLen ∧ SlAt w 3 ePe s l ∧ (∀ p ∈ l, SlAt w 1 eI p.ws p.wl) := by
  obtain ⟨s, c, l, h1, h2, h3, h4, h5, _⟩ := open_list Tryz.underlying23 cells87 (by decide) (fun _ _ _ h => rd_person h) h
  exact ⟨s, c, l, h1, h2, h3, h4, h5⟩
theorem rd_plan (h : DataW.trod enc Tryz.prog w base spare held n 25 cs = some x) : ∃ (sp : Option Addr) (cp : Nat) (lp : List (Int × Int)) (se : Option Addr) (ce : Nat) (le : List Pe), cs = [.slice sp lp.length cp, .slice se le.length ce] ∧
    SlAt w 2 eT2 sp lp ∧ (∀ p ∈ lp, p.2 ≤ 9223372036854775807) ∧ SlAt w 3 ePe se le ∧ (∀ p ∈ le, SlAt w 1 eI p.ws p.wl) := by
  obtain ⟨xs, m, _, _, hl, hlen, hf⟩ := DataW.trod_struct Tryz.underlying25 h
  rw [cells25] at hl
  obtain ⟨c0, c1, rfl⟩ := len2 hl
  have h0 : DataW.trod enc Tryz.prog w base spare held m 22 (([c0, c1].drop 0).take (Tryz.prog.cellsOf 22)) = xs[0]? := hf 0 _ rfl
  rw [cells22] at h0
  have h1 : DataW.trod enc Tryz.prog w base spare held m 23 (([c0, c1].drop 1).take (Tryz.prog.cellsOf 23)) = xs[1]? := hf 1 _ rfl
  rw [cells23] at h1
  simp at hlen
  obtain ⟨s, c, l, e0, _, _, hs, hb⟩ := rd_list2 (h0.trans (List.getElem?_eq_getElem (by omega)))
  obtain ⟨s2, c2, l2, e1, _, _, hs2, hb2⟩ := rd_people (h1.trans (List.getElem?_eq_getElem (by omega)))
  simp at e0 e1
  subst e0 e1
  exact ⟨s, c, l, s2, c2, l2, rfl, hs, hb, hs2, hb2⟩
end
end Go.Proofs.YtfjbioghpgmkiaaGreatDoor
/- The reference's turns are the program's: selection of the first of the least class, and its family; plain. -/
namespace Go.Proofs.YtfjbioghpgmkiaaGreatDoor
open Go.Eng Go.Dig

/-! a stable sort and any filter -/
theorem insV_filt (c : Int → Int) (p : Int → Bool) : ∀ (r : List Int) (x : Int), r.Pairwise (fun a b => c b ≤ c a) → (insV c r x).filter p = if p x = true then insV c (r.filter p) x else r.filter p
  | [], x, _ => by
    by_cases h : p x = true
    · rw [if_pos h]
      simp [insV, h]
    · rw [if_neg h]
      simp [insV, h]
  | y :: r, x, hr => by
    obtain ⟨h1, h2⟩ := List.pairwise_cons.1 hr
    have ih := insV_filt c p r x h2
    rw [insV]
    by_cases hxy : c x < c y
    · rw [if_pos hxy]
      by_cases hy : p y = true
      · rw [List.filter_cons_of_pos hy, List.filter_cons_of_pos hy, ih]
        by_cases hx : p x = true
        · rw [if_pos hx, if_pos hx, insV, if_pos hxy]
        · rw [if_neg hx, if_neg hx]
      · rw [List.filter_cons_of_neg hy, List.filter_cons_of_neg hy, ih]
    · rw [if_neg hxy]
      by_cases hx : p x = true
      · rw [if_pos hx, List.filter_cons_of_pos hx]
        have hnx : ∀ z ∈ (y :: r).filter p, ¬ c x < c z := by
          intro z hz
          rcases List.mem_cons.1 (List.mem_filter.1 hz).1 with rfl | hz
          · exact hxy
          · have := h1 z hz
            omega
        cases hq : (y :: r).filter p with
        | nil => rfl
        | cons z q => rw [insV, if_neg (hnx z (by rw [hq]; exact List.mem_cons_self))]
      · rw [if_neg hx, List.filter_cons_of_neg hx]
theorem sv_filt (c : Int → Int) (p : Int → Bool) : ∀ l : List Int, (sv c l).filter p = sv c (l.filter p)
  | [] => rfl
  | x :: r => by
    rw [sv, insV_filt c p _ x (sv_desc c r), sv_filt c p r]
    by_cases hx : p x = true
    · rw [if_pos hx, List.filter_cons_of_pos hx]
      rfl
    · rw [if_neg hx, List.filter_cons_of_neg hx]
theorem srt_filt (c : Int → Int) (p : Int → Bool) (l : List Int) : (srt c l).filter p = srt c (l.filter p) := by
  unfold srt
  rw [List.filter_reverse, sv_filt, List.filter_reverse]
theorem insV_flat {c : Int → Int} {x : Int} : ∀ r : List Int, (∀ y ∈ r, ¬ c x < c y) → insV c r x = x :: r
  | [], _ => rfl
  | y :: r, h => by rw [insV, if_neg (h y List.mem_cons_self)]
theorem sv_flat {c : Int → Int} : ∀ l : List Int, (∀ x ∈ l, ∀ y ∈ l, ¬ c x < c y) → sv c l = l
  | [], _ => rfl
  | x :: r, h => by
    rw [sv, sv_flat r (fun a ha b hb => h a (List.mem_cons_of_mem _ ha) b (List.mem_cons_of_mem _ hb)), insV_flat r (fun y hy => h x List.mem_cons_self y (List.mem_cons_of_mem _ hy))]
theorem srt_flat {c : Int → Int} {l : List Int} (h : ∀ x ∈ l, ∀ y ∈ l, ¬ c x < c y) : srt c l = l := by
  unfold srt
  rw [sv_flat _ (fun x hx y hy => h x (List.mem_reverse.1 hx) y (List.mem_reverse.1 hy)), List.reverse_reverse]
/-- those of one class stand in the order -/
theorem srt_class {c : Int → Int} {p : Int → Bool} {C : Int} (hp : ∀ x, p x = true → c x = C) (l : List Int) : (srt c l).filter p = l.filter p := by
  rw [srt_filt]
  refine srt_flat fun x hx y hy => ?_
  rw [hp x (List.mem_filter.1 hx).2, hp y (List.mem_filter.1 hy).2]
  omega

/-! the first of the least class -/
def stN (c : Int → Int) (D : List Int) (a : Option Int) (x : Int) : Option Int := if x ∈ D then a else match a with
  | none => some x
  | some y => if c x < c y then some x else some y
def nx (c : Int → Int) (D l : List Int) : Option Int := l.foldl (stN c D) none
theorem nx_snoc (c : Int → Int) (D l : List Int) (x : Int) : nx c D (l ++ [x]) = stN c D (nx c D l) x := by
  unfold nx
  rw [List.foldl_append]
  rfl
theorem insV_last (c : Int → Int) (x y : Int) : ∀ r : List Int, (∀ z ∈ r, c y ≤ c z) → insV c (r ++ [y]) x = if c x < c y then r ++ [y, x] else (insV c r x) ++ [y]
  | [], _ => by
    by_cases h : c x < c y <;> simp [insV, h]
  | z :: r, hz => by
    have ih := insV_last c x y r (fun w hw => hz w (List.mem_cons_of_mem _ hw))
    have h0 := hz z List.mem_cons_self
    show insV c (z :: (r ++ [y])) x = _
    rw [insV]
    by_cases h : c x < c y
    · rw [if_pos h, if_pos (by omega), ih, if_pos h]
      rfl
    · rw [if_neg h]
      rw [insV]
      by_cases h2 : c x < c z
      · rw [if_pos h2, if_pos h2, ih, if_neg h]
        rfl
      · rw [if_neg h2, if_neg h2]
        rfl
theorem nx_head (c : Int → Int) (D : List Int) (l : List Int) : nx c D l = ((srt c l).filter fun x => !decide (x ∈ D)).head? := by
  rw [srt_filt]
  induction l using rev_ind with
  | nil => rfl
  | append_singleton l x ih =>
    rw [nx_snoc, ih, List.filter_append]
    unfold stN
    by_cases hx : x ∈ D
    · rw [if_pos hx]
      simp [hx]
    · rw [if_neg hx]
      have e : [x].filter (fun x => !decide (x ∈ D)) = [x] := by simp [hx]
      rw [e, srt_snoc]
      generalize l.filter (fun x => !decide (x ∈ D)) = R
      have hasc := srt_asc c R
      cases hS : srt c R with
      | nil => rfl
      | cons y S =>
        rw [hS] at hasc
        obtain ⟨h1, _⟩ := List.pairwise_cons.1 hasc
        rw [List.reverse_cons, insV_last c x y S.reverse (fun z hz => h1 z (List.mem_reverse.1 hz))]
        by_cases h : c x < c y
        · rw [if_pos h]
          simp [h]
        · rw [if_neg h]
          simp [h]

/-! the turns, from what is done on -/
theorem tl_pre {r : Int → Int → Bool} : ∀ (P Q D : List Int), (∀ x ∈ P, x ∈ D) → tl r (P ++ Q) D = tl r Q D
  | [], _, _, _ => rfl
  | x :: P, Q, D, h => by
    rw [List.cons_append, tl_skip (h x List.mem_cons_self), tl_pre P Q D (fun y hy => h y (List.mem_cons_of_mem _ hy))]
theorem fl_pre {r : Int → Bool} {D P : List Int} (h : ∀ x ∈ P, x ∈ D) : fl r D P = [] := by
  unfold fl
  rw [List.filter_eq_nil_iff]
  intro x hx
  rw [decide_eq_true (h x hx)]
  simp
theorem filter_head {p : Int → Bool} {x : Int} : ∀ {S : List Int}, (S.filter p).head? = some x → ∃ P Q, S = P ++ x :: Q ∧ (∀ y ∈ P, p y = false) ∧ p x = true
  | [], h => by cases h
  | y :: S, h => by
    by_cases hy : p y = true
    · rw [List.filter_cons_of_pos hy] at h
      have : y = x := by simpa using h
      subst this
      exact ⟨[], S, rfl, (fun _ h => by cases h), hy⟩
    · rw [List.filter_cons_of_neg hy] at h
      obtain ⟨P, Q, e, h1, h2⟩ := filter_head h
      refine ⟨y :: P, Q, by rw [e]; rfl, fun z hz => ?_, h2⟩
      rcases List.mem_cons.1 hz with rfl | hz
      · simpa using hy
      · exact h1 z hz
/-- one round of the reference -/
theorem turn_step {r : Int → Int → Bool} {c : Int → Int} (hr : ∀ a b, r a b = true → c a = c b) {ord D : List Int} {x : Int} (hx : nx c D ord = some x) :
    x ∈ ord ∧ x ∉ D ∧ tl r (srt c ord) D = x :: (fl (r x) (D ++ [x]) ord ++ tl r (srt c ord) (D ++ [x] ++ fl (r x) (D ++ [x]) ord)) := by
  rw [nx_head] at hx
  obtain ⟨P, Q, hS, hP, hxD⟩ := filter_head hx
  have hPD : ∀ y ∈ P, y ∈ D := fun y hy => by simpa using hP y hy
  have hxD : x ∉ D := by simpa using hxD
  have hmem : x ∈ ord := (srt_perm c ord).mem_iff.1 (by rw [hS]; simp)
  have hfl : fl (r x) (D ++ [x]) Q = fl (r x) (D ++ [x]) ord := by
    have e1 : fl (r x) (D ++ [x]) (srt c ord) = fl (r x) (D ++ [x]) ord := by
      unfold fl
      exact srt_class (C := c x) (fun y hy => by
        rw [Bool.and_eq_true] at hy
        exact (hr x y hy.2).symm) ord
    rw [← e1, hS, show P ++ x :: Q = (P ++ [x]) ++ Q by simp, fl_split, fl_pre (P := P ++ [x]) (fun y hy => ?_), List.nil_append]
    rcases List.mem_append.1 hy with hy | hy
    · exact List.mem_append_left _ (hPD y hy)
    · exact List.mem_append_right _ hy
  refine ⟨hmem, hxD, ?_⟩
  have e2 : tl r (srt c ord) (D ++ [x] ++ fl (r x) (D ++ [x]) ord) = tl r Q (D ++ [x] ++ fl (r x) (D ++ [x]) ord) := by
    rw [hS, show P ++ x :: Q = (P ++ [x]) ++ Q by simp]
    refine tl_pre _ _ _ fun y hy => List.mem_append_left _ ?_
    rcases List.mem_append.1 hy with hy | hy
    · exact List.mem_append_left _ (hPD y hy)
    · exact List.mem_append_right _ hy
  rw [e2, hS, tl_pre P _ D hPD, tl_take hxD, hfl]
theorem turn_some {c : Int → Int} {ord D : List Int} (h : ∃ x ∈ ord, x ∉ D) : ∃ x, nx c D ord = some x := by
  obtain ⟨x, hx, hd⟩ := h
  rw [nx_head]
  cases hq : (srt c ord).filter (fun x => !decide (x ∈ D)) with
  | nil =>
    have := List.filter_eq_nil_iff.1 hq x ((srt_perm c ord).mem_iff.2 hx)
    simp [hd] at this
  | cons y q => exact ⟨y, rfl⟩
/-- what the reference has of the turns -/
structure TurnI (l : List En) (ord D : List Int) : Prop where
  eq : trn l ord = D ++ tl (relF l) (srt (clsF l) ord) D
theorem TurnI.start (l : List En) (ord : List Int) : TurnI l ord [] := ⟨rfl⟩
theorem TurnI.ord {l : List En} {ord D : List Int} (h : TurnI l ord D) (hO : Ord l.length ord) : D.Nodup ∧ (∀ x ∈ D, 0 ≤ x ∧ x < l.length) ∧ D.length ≤ l.length := by
  have hT := hO.trn
  have hs : D.Sublist (trn l ord) := by rw [h.eq]; exact List.sublist_append_left _ _
  refine ⟨hT.nd.sublist hs, fun x hx => hT.bd x (hs.subset hx), ?_⟩
  have := hs.length_le
  rw [hT.len] at this
  exact this
theorem TurnI.next {l : List En} {ord D : List Int} (h : TurnI l ord D) (hO : Ord l.length ord) (hlt : D.length < l.length) : ∃ x, nx (clsF l) D ord = some x ∧ x ∈ ord ∧ x ∉ D ∧ TurnI l ord (D ++ [x] ++ fl (relF l x) (D ++ [x]) ord) := by
  have hex : ∃ x ∈ ord, x ∉ D := by
    apply Classical.byContradiction
    intro hn
    have hsub : ∀ x ∈ ord, x ∈ D := fun x hx => Classical.byContradiction fun hd => hn ⟨x, hx, hd⟩
    have := (perm_of_sub hO.nd hsub (by rw [hO.len]; omega)).length_eq
    rw [hO.len] at this
    omega
  obtain ⟨x, hx⟩ := turn_some (c := clsF l) hex
  obtain ⟨h1, h2, h3⟩ := turn_step (r := relF l) (fun a b => relF_cls) hx
  refine ⟨x, hx, h1, h2, ⟨?_⟩⟩
  rw [h.eq, h3]
  simp
theorem TurnI.done {l : List En} {ord D : List Int} (h : TurnI l ord D) (hO : Ord l.length ord) (hlt : l.length ≤ D.length) : D = trn l ord := by
  have h1 := congrArg List.length h.eq
  rw [hO.trn.len, List.length_append] at h1
  have h2 : tl (relF l) (srt (clsF l) ord) D = [] := List.eq_nil_of_length_eq_zero (by omega)
  rw [h.eq, h2, List.append_nil]
end Go.Proofs.YtfjbioghpgmkiaaGreatDoor
/- The reference's Count, Seats, permitted, Turns; conditions: a ballot that lies in memory, an order. -/
namespace Go.Proofs.YtfjbioghpgmkiaaGreatDoor
open Go.Eng Go.Dig

theorem stO_none_at {ps : List (ByteArray × Int)} {k : Nat} {nm : ByteArray} (hk : k < ps.length) (h : stO (ps.take k) nm = none) (h2 : ¬ (ps[k].1 = nm ∧ nm ≠ noN)) : stO (ps.take (k + 1)) nm = none := by
  unfold stO at h ⊢
  by_cases hn : nm = noN
  · rw [if_pos hn]
  · rw [if_neg hn] at h ⊢
    rw [List.take_succ_eq_append_getElem hk, List.find?_append]
    have h3 : (ps.take k).find? (fun p => decide (p.1 = nm)) = none := by
      cases hq : (ps.take k).find? (fun p => decide (p.1 = nm)) with
      | none => rfl
      | some z => rw [hq] at h; cases h
    have h4 : ¬ ps[k].1 = nm := fun e => h2 ⟨e, hn⟩
    rw [h3, List.find?_cons, decide_eq_false h4]
    rfl
theorem stO_at {ps : List (ByteArray × Int)} {k : Nat} {nm : ByteArray} (hk : k < ps.length) (h : stO (ps.take k) nm = none) (h1 : ps[k].1 = nm) (hn : nm ≠ noN) : stO ps nm = some ps[k].2 := by
  unfold stO at h ⊢
  rw [if_neg hn] at h ⊢
  have h3 : (ps.take k).find? (fun p => decide (p.1 = nm)) = none := by
    cases hq : (ps.take k).find? (fun p => decide (p.1 = nm)) with
    | none => rfl
    | some z => rw [hq] at h; cases h
  have hsp : ps = ps.take k ++ ps[k] :: ps.drop (k + 1) := by rw [List.getElem_cons_drop, List.take_append_drop]
  have h5 : ps.find? (fun p => decide (p.1 = nm)) = some ps[k] := by
    conv => lhs; rw [hsp]
    rw [List.find?_append, h3, List.find?_cons, decide_eq_true h1]
    rfl
  rw [h5]
  rfl
theorem cS_take {x : List ByteArray} {k : Nat} {w : ByteArray} (hk : k < x.length) : cS (x.take (k + 1)) w = cS (x.take k) w + if x[k] = w then 1 else 0 := by
  rw [List.take_succ_eq_append_getElem hk, cS_snoc]
theorem cS_le (x : List ByteArray) (w : ByteArray) : cS x w ≤ x.length := List.countP_le_length
def nxE (a : Option Int) : Int := a.getD (-1)

attribute [local irreducible] PV StepF wpl wpd WP Ret
attribute [local irreducible] Fit srt tl fl seenL stO isO trn fact ordN rfO num asg nmI isR cS nx

set_option maxHeartbeats 4000000 in
theorem p71 (x : List ByteArray) (nm : ByteArray) (s : Option Addr) (c : Nat) (w : World) (hs : SlAt w 1 eS s x) (hl : x.length ≤ 1000000) :
    Ret Tryz.prog 71 [.slice s x.length c, .string nm] w (fun v w' => v = .int .i64 (cS x nm : Int) ∧ Keeps [] w w') := by
  have h0 : cS (x.take 0) nm = 0 := by unfold cS; rfl
  refine Ret.of_WP Tryz.func71 rfl Tryz.ntmps71 rfl ?_
  have hp := Hp.start (M := []) (w := w)
  (repeat (first | (with_reducible first | apply WP_seq | apply WP_block | apply WP_region | apply wpl_nil | apply thenQ_n) | (apply wlp; apply pv_assign; exact fI rfl)))
  refine WP_loopS [5, 6, 7, 8, 9, 10, 11, 12, 13, 14, 15, 16, 17, 18, 19, 20] (fun (k : Nat) F => (F.put 5 (.int .i64 (cS (x.take k) nm : Int))).put 6 (.int .i64 (k : Int))) (fun k w' => k ≤ x.length ∧ Hp w [] w' []) (fun k => x.length - k) 0 (put_self (put_self (Same.eq .refl) (by show Value.int .i64 0 = _; rw [h0]; rfl)) rfl) ⟨Nat.zero_le _, hp⟩ ?_
  clear hp h0
  rintro u k w1 ⟨hk, hp⟩
  (repeat (first | (with_reducible first | apply WP_seq | apply WP_region | apply wpl_nil | apply thenQ_n) | (apply wlp; ((first | apply pv_move | (apply pf_len; exact rfl) | apply pv_lss) <;> exact rfl); (first | exact fI rfl | exact fB rfl | exact fS rfl))))
  refine WP_cond_d rfl (fun h => ?_) (fun h => ?_)
  · have hlt : k < x.length := by omega
    obtain ⟨b0, o0, hs0, hc0⟩ := hs.base (by omega)
    have hci := hc0 k _ (List.getElem?_eq_getElem hlt) 0 _ rfl
    have hct := cS_take (w := nm) hlt
    have hcl := cS_le (x.take k) nm
    rw [List.length_take] at hcl
    generalize x[k] = a at hci hct
    have hci : w.cell? ⟨b0, o0 + k * 1, none⟩ = some (.string a) := hci
    (repeat (first | (with_reducible first | apply WP_seq | apply WP_block | apply WP_region | apply wpl_nil | apply thenQ_n | apply WP_skip) | (apply wlp; ((first | apply pv_move | (apply pf_load; exact rfl) | (apply pf_index; exact rfl) | (apply pv_seql; (first | exact rfl | exact ev_sel rfl (by assumption)))) <;> (first | exact rfl | assumption | exact hp.old0 (by assumption))); (first | exact fI rfl | exact fB rfl | exact fP rfl | exact fS rfl | exact fT rfl))))
    refine WP_cond_d rfl (fun h2 => ?_) (fun h2 => ?_)
    · rw [if_pos h2] at hct
      (repeat (first | with_reducible apply WP_region | (apply wlp; apply pv_move; exact fI rfl)))
      (apply wlp; (exact pv_add rfl rfl); exact int_eq (b := ((cS (x.take k) nm + 1 : Nat) : Int)) (by rw [i64_in (by omega) (by omega)]; omega))
      (repeat (first | (with_reducible first | apply WP_region | apply wpl_nil | apply thenQ_n | apply inBlk_n) | (apply wlp; (first | apply pv_move | apply pv_assign); exact fI rfl)))
      (apply wlp; (exact pv_add rfl rfl); exact int_eq (b := ((k + 1 : Nat) : Int)) (by rw [i64_in (by omega) (by omega)]; omega))
      (repeat (first | (with_reducible first | apply wpl_nil | apply thenQ_n) | (apply wlp; apply pv_assign; exact fI rfl)))
      exact ⟨k + 1, put_self (put_self (Same.eq (by repeat (first | exact Same.hav | exact Same.refl | refine Same.put rfl ?_ | refine Same.havs rfl ?_))) (by show Value.int .i64 ((cS (x.take k) nm + 1 : Nat) : Int) = _; rw [hct])) rfl, ⟨by omega, hp⟩, by omega⟩
    · rw [if_neg h2] at hct
      (repeat (first | (with_reducible first | apply WP_region | apply thenQ_n | apply inBlk_n | apply WP_skip) | (apply wlp; apply pv_move; exact fI rfl)))
      (apply wlp; (exact pv_add rfl rfl); exact int_eq (b := ((k + 1 : Nat) : Int)) (by rw [i64_in (by omega) (by omega)]; omega))
      (repeat (first | (with_reducible first | apply wpl_nil | apply thenQ_n) | (apply wlp; apply pv_assign; exact fI rfl)))
      exact ⟨k + 1, put_self (put_self (Same.eq (by repeat (first | exact Same.hav | exact Same.refl | refine Same.put rfl ?_ | refine Same.havs rfl ?_))) (by show Value.int .i64 ((cS (x.take k) nm : Nat) : Int) = _; rw [hct]; rfl)) rfl, ⟨by omega, hp⟩, by omega⟩
  have e : x.take k = x := List.take_of_length_le (by omega)
  rw [e]
  (repeat (first | (with_reducible first | apply WP_seq | apply WP_region | apply wpl_nil | apply thenQ_n | apply thenQ_exit | apply WP_ret | apply WP_exit) | ((with_reducible apply inBlk_same); exact rfl) | (apply wlp; (first | apply pv_move | apply pv_assign); exact fI rfl)))
  exact ret_tmp rfl rfl ⟨_, rfl, rfl, hp.keeps⟩

set_option maxHeartbeats 4000000 in
theorem p70 (n0 nm : ByteArray) (ps : List (ByteArray × Int)) (s : Option Addr) (c : Nat) (w : World) (hP : SlAt w 2 eP s ps) (hl : ps.length ≤ 1000) :
    Ret Tryz.prog 70 [.agg (dB n0 2 s ps.length c).toArray, .string nm] w (fun v w' => v = .tuple #[.int .i64 (max ((stO ps nm).getD 0) 0), .bool (stO ps nm).isSome] ∧ Keeps [] w w') := by
  have h0 : stO (ps.take 0) nm = none := by unfold stO; split <;> rfl
  refine Ret.of_WP Tryz.func70 rfl Tryz.ntmps70 rfl ?_
  have hp := Hp.start (M := []) (w := w)
  (repeat (with_reducible first | apply WP_seq | apply WP_region))
  (apply wls; exact sbox13 hp rfl; rintro _ w1 ⟨b2, rfl, hp⟩)
  have hp : Hp w [] w1 [blk b2 13 (frOf (dB n0 2 s ps.length c)) 32] := hp
  (repeat (first | (with_reducible first | apply WP_seq | apply WP_block | apply WP_region | apply wpl_nil | apply thenQ_n) | (apply wlp; apply pv_assign; (first | exact fI rfl | exact fB rfl))))
  refine WP_loopS [4, 5, 6, 7, 8, 9, 10, 11, 12, 13, 14, 15, 16, 17, 18, 19, 20, 21, 22, 23, 24, 25, 26, 27, 28, 29, 30, 31, 32] (fun (k : Nat) F => F.put 6 (.int .i64 (k : Int))) (fun k w' => k ≤ ps.length ∧ stO (ps.take k) nm = none ∧ Hp w [] w' [blk b2 13 (frOf (dB n0 2 s ps.length c)) 32]) (fun k => ps.length - k) 0 (put_self (Same.eq .refl) rfl) ⟨Nat.zero_le _, h0, hp⟩ ?_
  clear hp h0
  rintro u k w2 ⟨hk, hno, hp⟩
  (repeat (first | (with_reducible first | apply WP_seq | apply WP_region | apply wpl_nil | apply thenQ_n) | (apply wlp; ((first | apply pv_move | apply pf_field | (apply pf_load; exact rfl) | (apply pf_len; exact rfl) | apply pv_lss) <;> (first | exact rfl | exact hp.cell 0 rfl rfl)); (first | exact fI rfl | exact fB rfl | exact fP rfl | exact fS rfl))))
  refine WP_cond_d rfl (fun h => ?_) (fun h => ?_)
  · have hlt : k < ps.length := by omega
    obtain ⟨b0, o0, hs0, hc0⟩ := hP.base (by omega)
    have hci := hc0 k _ (List.getElem?_eq_getElem hlt)
    have hnx := stO_none_at (nm := nm) hlt hno
    have hat := stO_at (nm := nm) hlt hno
    generalize ps[k] = p at hci hnx hat
    obtain ⟨pn, pv⟩ := p
    have hc0 : w.cell? ⟨b0, o0 + k * 2 + 0, none⟩ = some (.string pn) := hci 0 _ rfl
    have hc1 : w.cell? ⟨b0, o0 + k * 2 + 1, none⟩ = some (.int .i64 pv) := hci 1 _ rfl
    clear hci
    by_cases h1 : pn = nm
    · by_cases h2 : nm = noN
      · have hnx := hnx (fun hh => hh.2 h2)
        (repeat (with_reducible first | apply WP_seq | apply WP_block | apply WP_region | apply thenQ_n | apply WP_skip))
        (apply wlp; (apply pf_field <;> exact rfl); exact fP rfl)
        (apply wlp; ((apply pf_load; exact rfl) <;> (first | exact rfl | exact hp.cell 0 rfl rfl)); exact fS rfl)
        (apply wlp; apply pv_move; exact fI rfl)
        (apply wlp; ((apply pf_index; exact rfl) <;> (first | exact rfl | assumption)); exact fP rfl)
        (apply wlp; (apply pf_field <;> exact rfl); exact fP rfl)
        (apply wlp; ((apply pf_load; exact rfl) <;> (first | exact rfl | exact hp.old0 (by assumption))); exact fT rfl)
        (apply wlp; apply pv_move; exact fT rfl)
        (apply wlp; exact pv_seql rfl rfl; exact bool_eq (b := true) (decide_eq_true h1))
        (apply wlp; apply pv_move; exact fB rfl)
        ((apply wlpT; exact rfl; exact rfl); (apply pv_move); (intros; exact fT rfl))
        (apply wlpT; exact rfl; exact rfl; exact pv_sneq rfl rfl; exact bool_eq (b := false) (by show (!decide (nm = noN)) = false; rw [decide_eq_true h2]; rfl))
        (repeat (first | (with_reducible first | apply wpl_nil | apply thenQ_n) | (apply wlp; (intros; exact pv_andT rfl rfl); (intros; exact fB rfl)) | (apply wlpF; exact rfl; exact rfl; exact rfl) | (apply wlpU; exact rfl; exact rfl)))
        refine WP_cond_f rfl ?_
        (repeat (first | (with_reducible first | apply WP_region | apply thenQ_n | apply inBlk_n | apply WP_skip) | (apply wlp; apply pv_move; exact fI rfl)))
        (apply wlp; (exact pv_add rfl rfl); exact int_eq (b := ((k + 1 : Nat) : Int)) (by rw [i64_in (by omega) (by omega)]; omega))
        (repeat (first | (with_reducible first | apply wpl_nil | apply thenQ_n) | (apply wlp; apply pv_assign; exact fI rfl)))
        exact ⟨k + 1, put_self (Same.eq (by repeat (first | exact Same.hav | exact Same.refl | refine Same.put rfl ?_ | refine Same.havs rfl ?_))) rfl, ⟨by omega, hnx, hp⟩, by omega⟩
      · have hat := hat h1 h2
        (repeat (with_reducible first | apply WP_seq | apply WP_block | apply WP_region | apply thenQ_n | apply WP_skip))
        (apply wlp; (apply pf_field <;> exact rfl); exact fP rfl)
        (apply wlp; ((apply pf_load; exact rfl) <;> (first | exact rfl | exact hp.cell 0 rfl rfl)); exact fS rfl)
        (apply wlp; apply pv_move; exact fI rfl)
        (apply wlp; ((apply pf_index; exact rfl) <;> (first | exact rfl | assumption)); exact fP rfl)
        (apply wlp; (apply pf_field <;> exact rfl); exact fP rfl)
        (apply wlp; ((apply pf_load; exact rfl) <;> (first | exact rfl | exact hp.old0 (by assumption))); exact fT rfl)
        (apply wlp; apply pv_move; exact fT rfl)
        (apply wlp; exact pv_seql rfl rfl; exact bool_eq (b := true) (decide_eq_true h1))
        (apply wlp; apply pv_move; exact fB rfl)
        ((apply wlpT; exact rfl; exact rfl); (apply pv_move); (intros; exact fT rfl))
        (apply wlpT; exact rfl; exact rfl; exact pv_sneq rfl rfl; exact bool_eq (b := true) (by show (!decide (nm = noN)) = true; rw [decide_eq_false h2]; rfl))
        (repeat (first | (with_reducible first | apply wpl_nil | apply thenQ_n) | (apply wlp; (intros; exact pv_andT rfl rfl); (intros; exact fB rfl)) | (apply wlpF; exact rfl; exact rfl; exact rfl) | (apply wlpU; exact rfl; exact rfl)))
        refine WP_cond_t rfl ?_
        (repeat (first | (with_reducible first | apply WP_seq | apply WP_region) | (apply wlp; ((first | apply pv_move | apply pf_field | (apply pf_load; exact rfl) | (apply pf_index; exact rfl)) <;> (first | exact rfl | assumption | exact hp.cell 0 rfl rfl | exact hp.old0 (by assumption))); (first | exact fI rfl | exact fP rfl | exact fS rfl))))
        (apply wlp; exact pv_maxK rfl rfl; exact int_eq (b := max ((stO ps nm).getD 0) 0) (by rw [hat]; show max 0 pv = max pv 0; omega))
        (repeat (first | (with_reducible first | apply wpl_nil | apply thenQ_n | apply thenQ_ret | apply inBlk_ret | apply WP_ret) | (apply wlp; apply pv_assign; (first | exact fI rfl | exact fB rfl))))
        exact ret_tmp2 rfl rfl rfl ⟨_, rfl, by rw [hat]; rfl, hp.keeps⟩
    · have hnx := hnx (fun hh => h1 hh.1)
      (repeat (with_reducible first | apply WP_seq | apply WP_block | apply WP_region | apply thenQ_n | apply WP_skip))
      (apply wlp; (apply pf_field <;> exact rfl); exact fP rfl)
      (apply wlp; ((apply pf_load; exact rfl) <;> (first | exact rfl | exact hp.cell 0 rfl rfl)); exact fS rfl)
      (apply wlp; apply pv_move; exact fI rfl)
      (apply wlp; ((apply pf_index; exact rfl) <;> (first | exact rfl | assumption)); exact fP rfl)
      (apply wlp; (apply pf_field <;> exact rfl); exact fP rfl)
      (apply wlp; ((apply pf_load; exact rfl) <;> (first | exact rfl | exact hp.old0 (by assumption))); exact fT rfl)
      (apply wlp; apply pv_move; exact fT rfl)
      (apply wlp; exact pv_seql rfl rfl; exact bool_eq (b := false) (decide_eq_false h1))
      (repeat (first | (with_reducible first | apply wpl_nil | apply thenQ_n) | (apply wlp; (intros; (first | apply pv_move | exact pv_andF rfl)); (intros; exact fB rfl)) | (apply wlpF; exact rfl; exact rfl; exact rfl) | (apply wlpU; exact rfl; exact rfl)))
      refine WP_cond_f rfl ?_
      (repeat (first | (with_reducible first | apply WP_region | apply thenQ_n | apply inBlk_n | apply WP_skip) | (apply wlp; apply pv_move; exact fI rfl)))
      (apply wlp; (exact pv_add rfl rfl); exact int_eq (b := ((k + 1 : Nat) : Int)) (by rw [i64_in (by omega) (by omega)]; omega))
      (repeat (first | (with_reducible first | apply wpl_nil | apply thenQ_n) | (apply wlp; apply pv_assign; exact fI rfl)))
      exact ⟨k + 1, put_self (Same.eq (by repeat (first | exact Same.hav | exact Same.refl | refine Same.put rfl ?_ | refine Same.havs rfl ?_))) rfl, ⟨by omega, hnx, hp⟩, by omega⟩
  have e : ps.take k = ps := List.take_of_length_le (by omega)
  rw [e] at hno
  (repeat (first | (with_reducible first | apply WP_seq | apply WP_region | apply wpl_nil | apply thenQ_n | apply thenQ_exit | apply WP_ret | apply WP_exit) | ((with_reducible apply inBlk_same); exact rfl) | (apply wlp; apply pv_assign; (first | exact fI rfl | exact fB rfl))))
  exact ret_tmp2 rfl rfl rfl ⟨_, rfl, by rw [hno]; rfl, hp.keeps⟩

set_option maxHeartbeats 4000000 in
theorem p68 (n0 : ByteArray) (np : Nat) (l : List En) (ord : List Int) (s sP so : Option Addr) (c cP co : Nat) (w : World) (hso : SlAt w 1 eI so ord) (hl : l.length ≤ 40) (hnp : np ≤ 12) (hO : isO l.length ord = true) :
    Ret Tryz.prog 68 [.agg (dB n0 2 sP np cP).toArray, .slice s l.length c, .slice so ord.length co] w (fun v w' => v = .bool true ∧ Keeps [] w w') := by
  have hol := (isO_facts hO).1
  have hR : isR l.length ord = true := by rw [← hol, isR_isO, hol, hO, decide_eq_true hl]; rfl
  refine Ret.of_WP Tryz.func68 rfl Tryz.ntmps68 rfl ?_
  have hp := Hp.start (M := []) (w := w)
  (repeat (with_reducible first | apply WP_seq | apply WP_region))
  (apply wls; exact sbox13 hp rfl; rintro _ w1 ⟨b2, rfl, hp⟩)
  have hp : Hp w [] w1 [blk b2 13 (frOf (dB n0 2 sP np cP)) 32] := hp
  (repeat (first | (with_reducible first | apply WP_seq | apply WP_region | apply wpl_nil | apply thenQ_n) | (apply wlp; ((first | apply pv_move | apply pv_assign | (apply pf_len; exact rfl)) <;> exact rfl); (first | exact fI rfl | exact fB rfl | exact fS rfl))))
  (apply wls; exact st_call rfl ent67 rfl (p67 l.length ord so co _ (hso.keep0 hp.keeps) (by omega) (by omega)))
  rintro _ w2 ⟨rfl, hk⟩
  have hp := hp.call hk
  rw [hR]
  (repeat (first | (with_reducible first | apply WP_seq | apply WP_region | apply wpl_nil | apply thenQ_n | apply WP_ret) | (apply wlp; (intros; ((first | apply pv_move | apply pv_assign | apply pf_field | (apply pf_load; exact rfl) | (apply pf_len; exact rfl) | exact pv_andT rfl rfl | apply pv_leq | (apply pv_eql; (first | exact rfl | exact ev_sel rfl (by assumption)))) <;> (first | exact rfl | exact hp.cell 0 rfl rfl))); (intros; (first | exact fI rfl | exact fB rfl | exact fP rfl | exact fS rfl))) | ((apply wlpT; exact rfl; exact rfl); (((first | apply pv_move | apply pv_assign | apply pf_field | (apply pf_load; exact rfl) | (apply pf_len; exact rfl) | exact pv_andT rfl rfl | apply pv_leq | (apply pv_eql; (first | exact rfl | exact ev_sel rfl (by assumption)))) <;> (first | exact rfl | exact hp.cell 0 rfl rfl))); (intros; (first | exact fI rfl | exact fB rfl | exact fP rfl | exact fS rfl))) | (apply wlpF; exact rfl; exact rfl; exact rfl) | (apply wlpU; exact rfl; exact rfl)))
  exact ret_tmp rfl rfl ⟨_, rfl, bool_eq (decide_eq_true (by omega)), hp.keeps⟩
end Go.Proofs.YtfjbioghpgmkiaaGreatDoor
/- The reference's Turns; conditions: entrants in memory, fewer than 20, an order. -/
namespace Go.Proofs.YtfjbioghpgmkiaaGreatDoor
open Go.Eng Go.Dig

theorem clsF_get {l : List En} {k : Nat} {e : En} (h : l[k]? = some e) : clsF l (k : Int) = e.cls := by
  unfold clsF
  rw [Int.toNat_natCast, h]
  rfl
theorem relF_get {l : List En} {a b : Nat} {e f : En} (h : l[a]? = some e) (h2 : l[b]? = some f) : relF l (a : Int) (b : Int) = relB e f := by
  unfold relF
  rw [Int.toNat_natCast, Int.toNat_natCast, h, h2]
theorem nx_mem {c : Int → Int} {D l : List Int} {x : Int} (h : nx c D l = some x) : x ∈ l ∧ x ∉ D := by
  rw [nx_head] at h
  obtain ⟨P, Q, hS, _, hx⟩ := filter_head h
  exact ⟨(srt_perm c l).mem_iff.1 (by rw [hS]; simp), by simpa using hx⟩
theorem nx_take {c : Int → Int} {D l : List Int} {k : Nat} (hk : k < l.length) : nx c D (l.take (k + 1)) = stN c D (nx c D (l.take k)) l[k] := by
  rw [List.take_succ_eq_append_getElem hk, nx_snoc]
theorem fl_take {r : Int → Bool} {D l : List Int} {k : Nat} (hk : k < l.length) : fl r D (l.take (k + 1)) = fl r D (l.take k) ++ (if (!decide (l[k] ∈ D) && r l[k]) = true then [l[k]] else []) := by
  rw [List.take_succ_eq_append_getElem hk, fl_snoc]
theorem take_get {o : List Int} (hn : o.Nodup) {k t : Nat} {x : Int} (hx : o[k]? = some x) (h : x ∈ o.take t) : k < t := by
  obtain ⟨hk, rfl⟩ := List.getElem?_eq_some_iff.1 hx
  obtain ⟨j, hj, hje⟩ := List.getElem_of_mem h
  rw [List.length_take] at hj
  rw [List.getElem_take] at hje
  have h2 : j < o.length := by omega
  have := (List.getElem?_inj h2 hn).1 ((List.getElem?_eq_getElem h2).trans (by rw [hje, List.getElem?_eq_getElem hk]))
  omega
/-- the element at k is done exactly if it was before the loop -/
theorem fl_new {r : Int → Bool} {D l : List Int} {k : Nat} (hn : l.Nodup) (hk : k < l.length) : l[k] ∈ D ++ fl r D (l.take k) ↔ l[k] ∈ D := by
  rw [List.mem_append]
  constructor
  · rintro (h | h)
    · exact h
    · have h2 := fl_mem h
      have := take_get (t := k) hn (List.getElem?_eq_getElem hk) h2
      omega
  · exact .inl

attribute [local irreducible] PV StepF wpl wpd WP Ret
attribute [local irreducible] Fit srt tl fl seenL stO isO trn fact ordN rfO num asg nmI isR cS nx

set_option maxHeartbeats 16000000 in
theorem p69 (l : List En) (ord : List Int) (s so : Option Addr) (c co : Nat) (w : World) (hE : SlAt w 6 eE s l) (hso : SlAt w 1 eI so ord) (h20 : l.length ≤ 20) (hO : isO l.length ord = true) :
    Ret Tryz.prog 69 [.slice s l.length c, .slice so ord.length co] w (fun v w' => ∃ s' c', v = .slice s' (trn l ord).length c' ∧ SVL s' c' (trn l ord) ∧ Hp w [] w' [ownL eI 3 1 s' c' (trn l ord)]) := by
  have hOrd := Ord.of hO
  have hol := hOrd.len
  refine Ret.of_WP Tryz.func69 rfl Tryz.ntmps69 rfl ?_
  have hp := Hp.start (M := []) (w := w)
  (repeat (first | (with_reducible first | apply WP_seq | apply WP_region | apply wpl_nil | apply thenQ_n) | (apply wlp; ((first | apply pv_move | apply pv_assign | (apply pf_len; exact rfl)) <;> exact rfl); (first | exact fI rfl | exact fS rfl))))
  (apply wls; exact sf_make eBo false hp rfl rfl rfl rfl rfl rfl rfl (by omega) rfl; rintro _ w1 ⟨tb, rfl, hvt, hp⟩)
  rw [← seenL_nil] at hvt hp
  have hp := hp.nilL eI 3 1
  have hsl : ∀ D, SVL (some ⟨tb, 0, none⟩) l.length (seenL l.length D) := fun D => .inr ⟨tb, l.length, by rw [seenL_len], by rw [seenL_len]; exact Nat.le_refl _, by unfold maxLen; omega⟩
  clear hvt
  (repeat (first | (with_reducible first | apply WP_seq | apply WP_block | apply wpl_nil | apply thenQ_n) | (apply wlp; apply pv_assign; exact fS rfl)))
  refine WP_loopS [5, 7, 8, 9, 10, 11, 15, 16, 17, 18, 19, 20, 21, 22, 23, 24, 25, 26, 27, 28, 29, 30, 31, 32, 33, 34, 35, 36, 37, 38, 39, 40, 41, 42, 43, 44, 45, 46, 47, 48, 49, 50, 51, 52, 53, 54, 55, 56, 57, 58, 59, 60, 61, 62, 63, 64, 65, 66, 67, 68, 69, 70, 71, 72, 73, 74, 75, 76, 77, 78, 79, 80, 81, 82, 83, 84, 85, 86, 87, 88, 89, 90, 91, 92, 93, 94, 95, 96, 97, 98, 99, 100, 101, 102, 103, 104, 105, 106, 107, 108, 109, 110, 111, 112, 113, 114, 115] (fun (X : List Int × Option Addr × Nat) F => F.put 5 (.slice X.2.1 X.1.length X.2.2))
    (fun X w' => TurnI l ord X.1 ∧ SVL X.2.1 X.2.2 X.1 ∧ Hp w [] w' [ownL eI 3 1 X.2.1 X.2.2 X.1, ownL eBo 4 1 (some ⟨tb, 0, none⟩) l.length (seenL l.length X.1)]) (fun X => l.length - X.1.length) ([], none, 0)
    (put_self (Same.eq .refl) rfl) ⟨.start l ord, .nil, hp⟩ ?_
  (repeat clear hp)
  rintro u ⟨D, sD, cD⟩ w2 ⟨hI, hvD, hp⟩
  dsimp only at hI hvD hp ⊢
  (repeat (first | (with_reducible first | apply WP_seq | apply WP_region | apply wpl_nil | apply thenQ_n) | (apply wlp; ((first | apply pv_move | (apply pf_len; exact rfl) | apply pv_lss) <;> exact rfl); (first | exact fI rfl | exact fB rfl | exact fS rfl))))
  refine WP_cond_d rfl (fun h => ?_) (fun h => ?_)
  · have hDl : D.length < l.length := by omega
    obtain ⟨hDn, hDb, hDle⟩ := hI.ord hOrd
    obtain ⟨x, hnx, hxo, hxD, hI2⟩ := hI.next hOrd hDl
    obtain ⟨bE, oE, hsE, hcE⟩ := hE.base (by omega)
    obtain ⟨bo, oo, hsoe, hoc⟩ := hso.base (by omega)
    (repeat (first | (with_reducible first | apply WP_seq | apply WP_block | apply WP_region | apply wpl_nil | apply thenQ_n | apply WP_skip) | (apply wlp; apply pv_assign; exact fI rfl)))
    refine WP_loopS [7, 8, 9, 20, 21, 22, 23, 24, 25, 26, 27, 28, 29, 30, 31, 32, 33, 34, 35, 36, 37, 38, 39, 40, 41, 42, 43, 44, 45, 46, 47, 48, 49, 50, 51, 52] (fun (k : Nat) F => (F.put 7 (.int .i64 (nxE (nx (clsF l) D (ord.take k))))).put 8 (.int .i64 (k : Int)))
      (fun k w' => k ≤ ord.length ∧ Hp w [] w' [ownL eI 3 1 sD cD D, ownL eBo 4 1 (some ⟨tb, 0, none⟩) l.length (seenL l.length D)]) (fun k => ord.length - k) 0
      (put_self (put_self (Same.eq .refl) (by show Value.int .i64 (-1) = _; unfold nx; rfl)) rfl) ⟨Nat.zero_le _, hp⟩ ?_
    (repeat clear hp)
    rintro u2 k w3 ⟨hk, hp⟩
    (repeat (first | (with_reducible first | apply WP_seq | apply WP_region | apply wpl_nil | apply thenQ_n) | (apply wlp; ((first | apply pv_move | (apply pf_len; exact rfl) | apply pv_lss) <;> exact rfl); (first | exact fI rfl | exact fB rfl | exact fS rfl))))
    refine WP_cond_d rfl (fun h2 => ?_) (fun h2 => ?_)
    · have hko : k < ord.length := by omega
      have hck := hoc k _ (List.getElem?_eq_getElem hko) 0 _ rfl
      have hbd := hOrd.bd _ (List.getElem_mem hko)
      have hnt := nx_take (c := clsF l) (D := D) hko
      generalize ord[k] = q0 at hck hbd hnt
      obtain ⟨q, rfl⟩ : ∃ q : Nat, q0 = q := ⟨q0.toNat, by omega⟩
      have hql : q < l.length := by omega
      have hck : w.cell? ⟨bo, oo + k * 1, none⟩ = some (.int .i64 (q : Int)) := hck
      have hgq := List.getElem?_eq_getElem hql
      have hcq := clsF_get hgq
      have hcell := hcE q _ hgq
      generalize l[q] = eq at hgq hcq hcell
      have hcell : w.cell? ⟨bE, oE + q * 6 + 1, none⟩ = some (.int .i64 eq.cls) := hcell 1 _ rfl
      by_cases hm : (q : Int) ∈ D
      · have hget : (seenL l.length D)[q]? = some true := by rw [seenL_get _ hql, decide_eq_true hm]
        have hnt2 : nx (clsF l) D (ord.take (k + 1)) = nx (clsF l) D (ord.take k) := by rw [hnt]; unfold stN; rw [if_pos hm]
        (repeat (first | (with_reducible first | apply WP_seq | apply WP_block | apply WP_region | apply wpl_nil | apply thenQ_n | apply WP_skip) | (apply wlp; ((first | apply pv_move | apply pv_assign | (apply pf_load; exact rfl) | (apply pf_index; exact rfl)) <;> (first | exact rfl | assumption | exact hp.old0 (by assumption))); (first | exact fI rfl | exact fP rfl | exact fS rfl))))
        refine WP_draw mixed (by kernel_rfl) (fun w' => Hp _ _ w' _) hp.drew ?_
        have hp := hp.drew
        (repeat (first | ((apply wdp; exact rfl); (intro w hp; intros; ((first | apply pv_move | (apply pf_load; exact rfl) | (apply pf_index; exact rfl)) <;> (first | exact rfl | assumption))); (intros; (first | exact fI rfl | exact fP rfl | exact fS rfl))) | (apply wdpF; exact rfl; exact rfl; exact rfl; exact rfl) | (apply wdpU; exact rfl; exact rfl; exact rfl)))
        (apply wdp; exact rfl; (intro w hp; exact pf_load rfl rfl (own_elem hp 1 rfl (hsl D) (fun _ => rfl) hget 0 _ rfl)); exact fB rfl)
        (repeat (first | ((apply wdp; exact rfl); (intro w hp; intros; ((first | apply pv_move | exact pv_andF rfl | apply pv_not) <;> exact rfl)); (intros; exact fB rfl)) | (apply wdpF; exact rfl; exact rfl; exact rfl; exact rfl) | (apply wdpU; exact rfl; exact rfl; exact rfl)))
        refine wpd_nil ?_
        refine WP_cond_f rfl ?_
        (repeat (first | (with_reducible first | apply WP_region | apply thenQ_n | apply inBlk_n | apply WP_skip) | (apply wlp; apply pv_move; exact fI rfl)))
        (apply wlp; (exact pv_add rfl rfl); exact int_eq (b := ((k + 1 : Nat) : Int)) (by rw [i64_in (by omega) (by omega)]; omega))
        (repeat (first | (with_reducible first | apply wpl_nil | apply thenQ_n) | (apply wlp; apply pv_assign; exact fI rfl)))
        exact ⟨k + 1, put_self (put_self (Same.eq (by repeat (first | exact Same.hav | exact Same.refl | refine Same.put rfl ?_ | refine Same.havs rfl ?_))) (by show Value.int .i64 (nxE (nx (clsF l) D (ord.take k))) = _; rw [hnt2])) rfl, ⟨by omega, hp⟩, by omega⟩
      · have hget : (seenL l.length D)[q]? = some false := by rw [seenL_get _ hql, decide_eq_false hm]
        cases hpr : nx (clsF l) D (ord.take k) with
        | none =>
          have hnt2 : nx (clsF l) D (ord.take (k + 1)) = some (q : Int) := by rw [hnt, hpr]; unfold stN; rw [if_neg hm]
          rw [show nxE none = -1 from rfl]
          (repeat (first | (with_reducible first | apply WP_seq | apply WP_block | apply WP_region | apply wpl_nil | apply thenQ_n | apply WP_skip) | (apply wlp; ((first | apply pv_move | apply pv_assign | (apply pf_load; exact rfl) | (apply pf_index; exact rfl)) <;> (first | exact rfl | assumption | exact hp.old0 (by assumption))); (first | exact fI rfl | exact fP rfl | exact fS rfl))))
          refine WP_draw mixed (by kernel_rfl) (fun w' => Hp _ _ w' _) hp.drew ?_
          have hp := hp.drew
          (repeat (first | ((apply wdp; exact rfl); (intro w hp; intros; ((first | apply pv_move | (apply pf_load; exact rfl) | (apply pf_index; exact rfl)) <;> (first | exact rfl | assumption))); (intros; (first | exact fI rfl | exact fP rfl | exact fS rfl))) | (apply wdpF; exact rfl; exact rfl; exact rfl; exact rfl) | (apply wdpU; exact rfl; exact rfl; exact rfl)))
          (apply wdp; exact rfl; (intro w hp; exact pf_load rfl rfl (own_elem hp 1 rfl (hsl D) (fun _ => rfl) hget 0 _ rfl)); exact fB rfl)
          (repeat (first | ((apply wdp; exact rfl); (intro w hp; intros; ((first | apply pv_move | exact pv_orT rfl | exact pv_andT rfl rfl | apply pv_lss | apply pv_not) <;> exact rfl)); (intros; (first | exact fI rfl | exact fB rfl))) | ((apply wdpT; exact rfl; exact rfl; exact rfl); (intro w hp; ((first | apply pv_move | exact pv_orT rfl | exact pv_andT rfl rfl | apply pv_lss | apply pv_not) <;> exact rfl)); (intros; (first | exact fI rfl | exact fB rfl))) | (apply wdpF; exact rfl; exact rfl; exact rfl; exact rfl) | (apply wdpU; exact rfl; exact rfl; exact rfl)))
          refine wpd_nil ?_
          refine WP_cond_t rfl ?_
          (repeat (first | (with_reducible first | apply WP_region | apply wpl_nil | apply thenQ_n | apply inBlk_n) | (apply wlp; (first | apply pv_move | apply pv_assign); exact fI rfl)))
          (apply wlp; (exact pv_add rfl rfl); exact int_eq (b := ((k + 1 : Nat) : Int)) (by rw [i64_in (by omega) (by omega)]; omega))
          (repeat (first | (with_reducible first | apply wpl_nil | apply thenQ_n) | (apply wlp; apply pv_assign; exact fI rfl)))
          exact ⟨k + 1, put_self (put_self (Same.eq (by repeat (first | exact Same.hav | exact Same.refl | refine Same.put rfl ?_ | refine Same.havs rfl ?_))) (by show Value.int .i64 (q : Int) = _; rw [hnt2]; rfl)) rfl, ⟨by omega, hp⟩, by omega⟩
        | some y0 =>
          obtain ⟨hyo, _⟩ := nx_mem hpr
          have hyb := hOrd.bd _ (List.mem_of_mem_take hyo)
          obtain ⟨y, rfl⟩ : ∃ y : Nat, y0 = y := ⟨y0.toNat, by omega⟩
          have hyl : y < l.length := by omega
          have hgy := List.getElem?_eq_getElem hyl
          have hcy := clsF_get hgy
          have hcelly := hcE y _ hgy
          generalize l[y] = ey at hgy hcy hcelly
          have hcelly : w.cell? ⟨bE, oE + y * 6 + 1, none⟩ = some (.int .i64 ey.cls) := hcelly 1 _ rfl
          have hnt2 : nx (clsF l) D (ord.take (k + 1)) = if eq.cls < ey.cls then some (q : Int) else some (y : Int) := by
            rw [hnt, hpr]
            unfold stN
            rw [if_neg hm, hcq]
            show (if eq.cls < clsF l (y : Int) then some (q : Int) else some (y : Int)) = _
            rw [hcy]
          rw [show nxE (some (y : Int)) = (y : Int) from rfl]
          (repeat (first | (with_reducible first | apply WP_seq | apply WP_block | apply WP_region | apply wpl_nil | apply thenQ_n | apply WP_skip) | (apply wlp; ((first | apply pv_move | apply pv_assign | (apply pf_load; exact rfl) | (apply pf_index; exact rfl)) <;> (first | exact rfl | assumption | exact hp.old0 (by assumption))); (first | exact fI rfl | exact fP rfl | exact fS rfl))))
          refine WP_draw mixed (by kernel_rfl) (fun w' => Hp _ _ w' _) hp.drew ?_
          have hp := hp.drew
          (repeat (first | ((apply wdp; exact rfl); (intro w hp; intros; ((first | apply pv_move | (apply pf_load; exact rfl) | (apply pf_index; exact rfl)) <;> (first | exact rfl | assumption))); (intros; (first | exact fI rfl | exact fP rfl | exact fS rfl))) | (apply wdpF; exact rfl; exact rfl; exact rfl; exact rfl) | (apply wdpU; exact rfl; exact rfl; exact rfl)))
          (apply wdp; exact rfl; (intro w hp; exact pf_load rfl rfl (own_elem hp 1 rfl (hsl D) (fun _ => rfl) hget 0 _ rfl)); exact fB rfl)
          (apply wdp; exact rfl; (intro w hp; exact pv_not rfl); exact bool_eq (b := true) rfl)
          (apply wdp; exact rfl; (intro w hp; exact pv_move); exact rfl)
          (apply wdpT; exact rfl; exact rfl; exact rfl; (intro w hp; exact pv_move); exact rfl)
          (apply wdpT; exact rfl; exact rfl; exact rfl; (intro w hp; exact pv_lss rfl rfl); exact bool_eq (b := false) (decide_eq_false (by omega)))
          (repeat (first | ((apply wdp; exact rfl); (intro w hp; intros; ((first | apply pv_move | apply pf_field | (apply pf_load; exact rfl) | exact pv_andT rfl rfl | exact pv_orF rfl rfl | apply pv_lss | (apply pf_index; exact rfl)) <;> (first | exact rfl | assumption | exact hp.old0 (by assumption)))); (intros; (first | exact fI rfl | exact fB rfl | exact fP rfl | exact fS rfl))) | ((apply wdpT; exact rfl; exact rfl; exact rfl); (intro w hp; ((first | apply pv_move | apply pf_field | (apply pf_load; exact rfl) | exact pv_andT rfl rfl | exact pv_orF rfl rfl | apply pv_lss | (apply pf_index; exact rfl)) <;> (first | exact rfl | assumption | exact hp.old0 (by assumption)))); (intros; (first | exact fI rfl | exact fB rfl | exact fP rfl | exact fS rfl))) | (apply wdpF; exact rfl; exact rfl; exact rfl; exact rfl) | (apply wdpU; exact rfl; exact rfl; exact rfl)))
          refine wpd_nil ?_
          by_cases hlt : eq.cls < ey.cls
          · rw [if_pos hlt] at hnt2
            refine WP_cond_d rfl (fun _ => ?_) (fun hh => absurd hlt hh)
            (repeat (first | (with_reducible first | apply WP_region | apply wpl_nil | apply thenQ_n | apply inBlk_n) | (apply wlp; (first | apply pv_move | apply pv_assign); exact fI rfl)))
            (apply wlp; (exact pv_add rfl rfl); exact int_eq (b := ((k + 1 : Nat) : Int)) (by rw [i64_in (by omega) (by omega)]; omega))
            (repeat (first | (with_reducible first | apply wpl_nil | apply thenQ_n) | (apply wlp; apply pv_assign; exact fI rfl)))
            exact ⟨k + 1, put_self (put_self (Same.eq (by repeat (first | exact Same.hav | exact Same.refl | refine Same.put rfl ?_ | refine Same.havs rfl ?_))) (by show Value.int .i64 (q : Int) = _; rw [hnt2]; rfl)) rfl, ⟨by omega, hp⟩, by omega⟩
          · rw [if_neg hlt] at hnt2
            refine WP_cond_d rfl (fun hh => absurd hh hlt) (fun _ => ?_)
            (repeat (first | (with_reducible first | apply WP_region | apply thenQ_n | apply inBlk_n | apply WP_skip) | (apply wlp; apply pv_move; exact fI rfl)))
            (apply wlp; (exact pv_add rfl rfl); exact int_eq (b := ((k + 1 : Nat) : Int)) (by rw [i64_in (by omega) (by omega)]; omega))
            (repeat (first | (with_reducible first | apply wpl_nil | apply thenQ_n) | (apply wlp; apply pv_assign; exact fI rfl)))
            exact ⟨k + 1, put_self (put_self (Same.eq (by repeat (first | exact Same.hav | exact Same.refl | refine Same.put rfl ?_ | refine Same.havs rfl ?_))) (by show Value.int .i64 (y : Int) = _; rw [hnt2]; rfl)) rfl, ⟨by omega, hp⟩, by omega⟩
    have e : ord.take k = ord := List.take_of_length_le (by omega)
    rw [e, hnx, show nxE (some x) = x from rfl]
    clear e h2 hk
    have hxb := hOrd.bd _ hxo
    obtain ⟨y, rfl⟩ : ∃ y : Nat, x = y := ⟨x.toNat, by omega⟩
    have hyl : y < l.length := by omega
    have hgy := List.getElem?_eq_getElem hyl
    have hcely := hcE y _ hgy
    have hrel := fun (q : Nat) (e : En) (h : l[q]? = some e) => relF_get hgy h
    generalize l[y] = ey at hgy hcely hrel
    have hy1 : w.cell? ⟨bE, oE + y * 6 + 1, none⟩ = some (.int .i64 ey.cls) := hcely 1 _ rfl
    have hy2 : w.cell? ⟨bE, oE + y * 6 + 2, none⟩ = some (.int .i64 ey.fam) := hcely 2 _ rfl
    clear hcely
    (repeat (first | (with_reducible first | apply WP_seq | apply WP_region | apply thenQ_n | apply thenQ_exit | apply WP_exit) | ((with_reducible apply inBlk_same); exact rfl) | (apply wlp; apply pv_move; (first | exact fI rfl | exact fS rfl))))
    (apply wls; exact sf_slice hp rfl rfl rfl rfl rfl rfl rfl; rintro _ w4 ⟨nb, rfl, hp⟩)
    (apply wls; exact sf_app1 eI D (y : Int) hp 1 0 rfl rfl rfl rfl rfl rfl (fun _ => rfl) rfl rfl rfl hvD rfl rfl (by omega); rintro _ w5 ⟨sA, cA, rfl, hvA, hp⟩)
    have hp := hp.tail
    (repeat (first | (with_reducible first | apply WP_seq | apply WP_region | apply wpl_nil | apply thenQ_n) | (apply wlp; ((first | apply pv_move | apply pv_assign | (apply pf_index; exact rfl)) <;> (first | exact rfl | assumption)); (first | exact fI rfl | exact fP rfl | exact fS rfl))))
    (apply wls0; exact st_setL eBo _ y true hp 1 rfl (hsl D) (by rw [seenL_len]; exact hyl) rfl rfl (fun _ => rfl) rfl rfl (sizeTy_ok rfl); rintro _ w6 ⟨rfl, hp⟩)
    rw [seenL_set _ hyl] at hp
    obtain ⟨D1, hD1⟩ : ∃ D1, D1 = D ++ [(y : Int)] := ⟨_, rfl⟩
    have hD1l : D1.length = D.length + 1 := by rw [hD1]; simp
    rw [← hD1] at hp hvA hI2 ⊢
    obtain ⟨r, hr⟩ : ∃ r, r = relF l (y : Int) := ⟨_, rfl⟩
    rw [← hr] at hI2 hrel
    have hfl0 : fl r D1 (ord.take 0) = [] := by unfold fl; rfl
    have hp : Hp w [] w6 [ownL eI 3 1 sA cA (D1 ++ fl r D1 (ord.take 0)), ownL eBo 4 1 (some ⟨tb, 0, none⟩) l.length (seenL l.length (D1 ++ fl r D1 (ord.take 0)))] := by
      rw [hfl0, List.append_nil]
      exact hp
    have hvA : SVL sA cA (D1 ++ fl r D1 (ord.take 0)) := by
      rw [hfl0, List.append_nil]
      exact hvA
    have hfle : ∀ k, (fl r D1 (ord.take k)).length ≤ 20 := fun k => by
      unfold fl
      exact Nat.le_trans (List.length_filter_le _ _) (by rw [List.length_take]; omega)
    (repeat (first | (with_reducible first | apply WP_seq | apply WP_block | apply WP_region | apply wpl_nil | apply thenQ_n) | (apply wlp; apply pv_assign; exact fI rfl)))
    refine WP_loopS [5, 10, 11, 60, 61, 62, 63, 64, 65, 66, 67, 68, 69, 70, 71, 72, 73, 74, 75, 76, 77, 78, 79, 80, 81, 82, 83, 84, 85, 86, 87, 88, 89, 90, 91, 92, 93, 94, 95, 96, 97, 98, 99, 100, 101, 102, 103, 104, 105, 106, 107, 108, 109, 110, 111, 112, 113, 114, 115] (fun (X : Nat × Option Addr × Nat) F => (F.put 5 (.slice X.2.1 (D1 ++ fl r D1 (ord.take X.1)).length X.2.2)).put 10 (.int .i64 (X.1 : Int)))
      (fun X w' => X.1 ≤ ord.length ∧ SVL X.2.1 X.2.2 (D1 ++ fl r D1 (ord.take X.1)) ∧ Hp w [] w' [ownL eI 3 1 X.2.1 X.2.2 (D1 ++ fl r D1 (ord.take X.1)), ownL eBo 4 1 (some ⟨tb, 0, none⟩) l.length (seenL l.length (D1 ++ fl r D1 (ord.take X.1)))]) (fun X => ord.length - X.1) (0, sA, cA)
      (put_self (put_self (Same.eq .refl) (by show Value.slice sA _ cA = _; rw [hfl0, List.append_nil, hD1])) rfl) ⟨Nat.zero_le _, hvA, hp⟩ ?_
    (repeat clear hp)
    clear hvA hfl0
    rintro u3 ⟨k, sB, cB⟩ w7 ⟨hk, hvB, hp⟩
    dsimp only at hk hvB hp ⊢
    (repeat (first | (with_reducible first | apply WP_seq | apply WP_region | apply wpl_nil | apply thenQ_n) | (apply wlp; ((first | apply pv_move | (apply pf_len; exact rfl) | apply pv_lss) <;> exact rfl); (first | exact fI rfl | exact fB rfl | exact fS rfl))))
    refine WP_cond_d rfl (fun h2 => ?_) (fun h2 => ?_)
    · have hko : k < ord.length := by omega
      have hck := hoc k _ (List.getElem?_eq_getElem hko) 0 _ rfl
      have hbd := hOrd.bd _ (List.getElem_mem hko)
      have hft := fl_take (r := r) (D := D1) hko
      have hfn := fl_new (r := r) (D := D1) hOrd.nd hko
      have hfk := hfle k
      generalize ord[k] = q0 at hck hbd hft hfn
      obtain ⟨q, rfl⟩ : ∃ q : Nat, q0 = q := ⟨q0.toNat, by omega⟩
      have hql : q < l.length := by omega
      have hck : w.cell? ⟨bo, oo + k * 1, none⟩ = some (.int .i64 (q : Int)) := hck
      have hgq := List.getElem?_eq_getElem hql
      have hrq := hrel q _ hgq
      have hcelq := hcE q _ hgq
      generalize l[q] = eq at hgq hcelq hrq
      have hq1 : w.cell? ⟨bE, oE + q * 6 + 1, none⟩ = some (.int .i64 eq.cls) := hcelq 1 _ rfl
      have hq2 : w.cell? ⟨bE, oE + q * 6 + 2, none⟩ = some (.int .i64 eq.fam) := hcelq 2 _ rfl
      clear hcelq
      rw [hrq] at hft
      have hgs : (seenL l.length (D1 ++ fl r D1 (ord.take k)))[q]? = some (decide ((q : Int) ∈ D1)) := by
        rw [seenL_get _ hql]
        congr 1
        exact decide_eq_decide.2 hfn
      have hsB := hsl (D1 ++ fl r D1 (ord.take k))
      by_cases hm : (!decide ((q : Int) ∈ D1) && relB ey eq) = true
      · rw [if_pos hm] at hft
        rw [Bool.and_eq_true, Bool.not_eq_true', decide_eq_false_iff_not] at hm
        obtain ⟨hm1, hm2⟩ := hm
        unfold relB at hm2
        rw [Bool.and_eq_true, Bool.and_eq_true, Bool.not_eq_true', decide_eq_false_iff_not, decide_eq_true_eq, decide_eq_true_eq] at hm2
        obtain ⟨hf0, hf1, hf2⟩ := hm2
        rw [decide_eq_false hm1] at hgs
        have hap : D1 ++ fl r D1 (ord.take (k + 1)) = (D1 ++ fl r D1 (ord.take k)) ++ [(q : Int)] := by rw [hft, List.append_assoc]
        have hDD : (D1 ++ fl r D1 (ord.take k)).length ≤ 50 := by rw [List.length_append]; omega
        generalize D1 ++ fl r D1 (ord.take k) = DD at hvB hp hgs hap hDD hsB
        (repeat (first | (with_reducible first | apply WP_seq | apply WP_block | apply WP_region | apply wpl_nil | apply thenQ_n | apply WP_skip) | (apply wlp; ((first | apply pv_move | apply pv_assign | (apply pf_load; exact rfl) | (apply pf_index; exact rfl)) <;> (first | exact rfl | assumption | exact hp.old0 (by assumption))); (first | exact fI rfl | exact fP rfl | exact fS rfl))))
        refine WP_draw mixed (by kernel_rfl) (fun w' => Hp _ _ w' _) hp.drew ?_
        have hp := hp.drew
        (repeat (first | ((apply wdp; exact rfl); (intro w hp; intros; ((first | apply pv_move | (apply pf_load; exact rfl) | (apply pf_index; exact rfl)) <;> (first | exact rfl | assumption))); (intros; (first | exact fI rfl | exact fP rfl | exact fS rfl))) | (apply wdpF; exact rfl; exact rfl; exact rfl; exact rfl) | (apply wdpU; exact rfl; exact rfl; exact rfl)))
        (apply wdp; exact rfl; (intro w hp; exact pf_load rfl rfl (own_elem hp 1 rfl hsB (fun _ => rfl) hgs 0 _ rfl)); exact fB rfl)
        (apply wdp; exact rfl; (intro w hp; exact pv_not rfl); exact bool_eq (b := true) rfl)
        (apply wdp; exact rfl; (intro w hp; exact pv_move); exact rfl)
        (apply wdpT; exact rfl; exact rfl; exact rfl; (intro w hp; exact pv_move); exact rfl)
        (apply wdpT; exact rfl; exact rfl; exact rfl; (intro w hp; exact pv_move); exact rfl)
        (apply wdpT; exact rfl; exact rfl; exact rfl; (intro w hp; exact pf_index rfl rfl rfl hsE hyl); exact fP rfl)
        (apply wdpT; exact rfl; exact rfl; exact rfl; (intro w hp; exact pf_field rfl rfl); exact fP rfl)
        (apply wdpT; exact rfl; exact rfl; exact rfl; (intro w hp; exact pf_load rfl rfl (hp.old0 hy2)); exact fI rfl)
        (apply wdpT; exact rfl; exact rfl; exact rfl; (intro w hp; exact pv_neq rfl rfl); exact bool_eq (b := true) (by rw [decide_eq_false hf0]; rfl))
        (apply wdp; exact rfl; (intro w hp; exact pv_andT rfl rfl); exact fB rfl)
        (apply wdp; exact rfl; (intro w hp; exact pv_move); exact rfl)
        (apply wdpT; exact rfl; exact rfl; exact rfl; (intro w hp; exact pv_move); exact rfl)
        (apply wdpT; exact rfl; exact rfl; exact rfl; (intro w hp; exact pv_move); exact rfl)
        (apply wdpT; exact rfl; exact rfl; exact rfl; (intro w hp; exact pf_index rfl rfl rfl hsE hql); exact fP rfl)
        (apply wdpT; exact rfl; exact rfl; exact rfl; (intro w hp; exact pf_field rfl rfl); exact fP rfl)
        (apply wdpT; exact rfl; exact rfl; exact rfl; (intro w hp; exact pf_load rfl rfl (hp.old0 hq2)); exact fI rfl)
        (apply wdpT; exact rfl; exact rfl; exact rfl; (intro w hp; exact pv_move); exact rfl)
        (apply wdpT; exact rfl; exact rfl; exact rfl; (intro w hp; exact pv_move); exact rfl)
        (apply wdpT; exact rfl; exact rfl; exact rfl; (intro w hp; exact pf_index rfl rfl rfl hsE hyl); exact fP rfl)
        (apply wdpT; exact rfl; exact rfl; exact rfl; (intro w hp; exact pf_field rfl rfl); exact fP rfl)
        (apply wdpT; exact rfl; exact rfl; exact rfl; (intro w hp; exact pf_load rfl rfl (hp.old0 hy2)); exact fI rfl)
        (apply wdpT; exact rfl; exact rfl; exact rfl; (intro w hp; exact pv_eql rfl rfl); exact bool_eq (b := true) (decide_eq_true hf1.symm))
        (apply wdp; exact rfl; (intro w hp; exact pv_andT rfl rfl); exact fB rfl)
        (apply wdp; exact rfl; (intro w hp; exact pv_move); exact rfl)
        (apply wdpT; exact rfl; exact rfl; exact rfl; (intro w hp; exact pv_move); exact rfl)
        (apply wdpT; exact rfl; exact rfl; exact rfl; (intro w hp; exact pv_move); exact rfl)
        (apply wdpT; exact rfl; exact rfl; exact rfl; (intro w hp; exact pf_index rfl rfl rfl hsE hql); exact fP rfl)
        (apply wdpT; exact rfl; exact rfl; exact rfl; (intro w hp; exact pf_field rfl rfl); exact fP rfl)
        (apply wdpT; exact rfl; exact rfl; exact rfl; (intro w hp; exact pf_load rfl rfl (hp.old0 hq1)); exact fI rfl)
        (apply wdpT; exact rfl; exact rfl; exact rfl; (intro w hp; exact pv_move); exact rfl)
        (apply wdpT; exact rfl; exact rfl; exact rfl; (intro w hp; exact pv_move); exact rfl)
        (apply wdpT; exact rfl; exact rfl; exact rfl; (intro w hp; exact pf_index rfl rfl rfl hsE hyl); exact fP rfl)
        (apply wdpT; exact rfl; exact rfl; exact rfl; (intro w hp; exact pf_field rfl rfl); exact fP rfl)
        (apply wdpT; exact rfl; exact rfl; exact rfl; (intro w hp; exact pf_load rfl rfl (hp.old0 hy1)); exact fI rfl)
        (apply wdpT; exact rfl; exact rfl; exact rfl; (intro w hp; exact pv_eql rfl rfl); exact bool_eq (b := true) (decide_eq_true hf2.symm))
        (apply wdp; exact rfl; (intro w hp; exact pv_andT rfl rfl); exact fB rfl)
        refine wpd_nil ?_
        refine WP_cond_t rfl ?_
        (repeat (first | (with_reducible first | apply WP_seq | apply WP_region) | (apply wlp; apply pv_move; (first | exact fI rfl | exact fS rfl))))
        (apply wls; exact sf_slice hp rfl rfl rfl rfl rfl rfl rfl; rintro _ w8 ⟨nb, rfl, hp⟩)
        (apply wls; exact sf_app1 eI DD (q : Int) hp 1 0 rfl rfl rfl rfl rfl rfl (fun _ => rfl) rfl rfl rfl hvB rfl rfl (by omega); rintro _ w9 ⟨sC, cC, rfl, hvC, hp⟩)
        have hp := hp.tail
        (repeat (first | (with_reducible first | apply WP_region | apply wpl_nil | apply thenQ_n) | (apply wlp; ((first | apply pv_move | apply pv_assign | (apply pf_index; exact rfl)) <;> (first | exact rfl | assumption)); (first | exact fI rfl | exact fP rfl | exact fS rfl))))
        (apply wls0; exact st_setL eBo _ q true hp 1 rfl hsB (by rw [seenL_len]; exact hql) rfl rfl (fun _ => rfl) rfl rfl (sizeTy_ok rfl); rintro _ w10 ⟨rfl, hp⟩)
        rw [seenL_set _ hql] at hp
        rw [← hap] at hp hvC
        (repeat (first | (with_reducible first | apply WP_region | apply wpl_nil | apply thenQ_n | apply inBlk_n) | (apply wlp; apply pv_move; exact fI rfl)))
        (apply wlp; (exact pv_add rfl rfl); exact int_eq (b := ((k + 1 : Nat) : Int)) (by rw [i64_in (by omega) (by omega)]; omega))
        (repeat (first | (with_reducible first | apply wpl_nil | apply thenQ_n) | (apply wlp; apply pv_assign; exact fI rfl)))
        refine ⟨(k + 1, sC, cC), put_self (put_self (Same.eq (by repeat (first | exact Same.hav | exact Same.refl | refine Same.put rfl ?_ | refine Same.havs rfl ?_))) (by show Value.slice sC (DD ++ [(q : Int)]).length cC = _; rw [hap])) rfl, ⟨by dsimp only; omega, hvC, hp⟩, by dsimp only; omega⟩
      · rw [if_neg hm, List.append_nil] at hft
        by_cases hm1 : (q : Int) ∈ D1
        · rw [decide_eq_true hm1] at hgs
          (repeat (first | (with_reducible first | apply WP_seq | apply WP_block | apply WP_region | apply wpl_nil | apply thenQ_n | apply WP_skip) | (apply wlp; ((first | apply pv_move | apply pv_assign | (apply pf_load; exact rfl) | (apply pf_index; exact rfl)) <;> (first | exact rfl | assumption | exact hp.old0 (by assumption))); (first | exact fI rfl | exact fP rfl | exact fS rfl))))
          refine WP_draw mixed (by kernel_rfl) (fun w' => Hp _ _ w' _) hp.drew ?_
          have hp := hp.drew
          (repeat (first | ((apply wdp; exact rfl); (intro w hp; intros; ((first | apply pv_move | (apply pf_load; exact rfl) | (apply pf_index; exact rfl)) <;> (first | exact rfl | assumption))); (intros; (first | exact fI rfl | exact fP rfl | exact fS rfl))) | (apply wdpF; exact rfl; exact rfl; exact rfl; exact rfl) | (apply wdpU; exact rfl; exact rfl; exact rfl)))
          (apply wdp; exact rfl; (intro w hp; exact pf_load rfl rfl (own_elem hp 1 rfl hsB (fun _ => rfl) hgs 0 _ rfl)); exact fB rfl)
          (repeat (first | ((apply wdp; exact rfl); (intro w hp; intros; ((first | apply pv_move | exact pv_andF rfl | apply pv_not) <;> exact rfl)); (intros; exact fB rfl)) | (apply wdpF; exact rfl; exact rfl; exact rfl; exact rfl) | (apply wdpU; exact rfl; exact rfl; exact rfl)))
          refine wpd_nil ?_
          refine WP_cond_f rfl ?_
          (repeat (first | (with_reducible first | apply WP_region | apply thenQ_n | apply inBlk_n | apply WP_skip) | (apply wlp; apply pv_move; exact fI rfl)))
          (apply wlp; (exact pv_add rfl rfl); exact int_eq (b := ((k + 1 : Nat) : Int)) (by rw [i64_in (by omega) (by omega)]; omega))
          (repeat (first | (with_reducible first | apply wpl_nil | apply thenQ_n) | (apply wlp; apply pv_assign; exact fI rfl)))
          refine ⟨(k + 1, sB, cB), put_self (put_self (Same.eq (by repeat (first | exact Same.hav | exact Same.refl | refine Same.put rfl ?_ | refine Same.havs rfl ?_))) (by show Value.slice sB (D1 ++ fl r D1 (ord.take k)).length cB = _; rw [hft])) rfl, ⟨by dsimp only; omega, by dsimp only; rw [hft]; exact hvB, by dsimp only; rw [hft]; exact hp⟩, by dsimp only; omega⟩
        · rw [decide_eq_false hm1] at hgs hm
          by_cases hf0 : ey.fam = 0
          · (repeat (first | (with_reducible first | apply WP_seq | apply WP_block | apply WP_region | apply wpl_nil | apply thenQ_n | apply WP_skip) | (apply wlp; ((first | apply pv_move | apply pv_assign | (apply pf_load; exact rfl) | (apply pf_index; exact rfl)) <;> (first | exact rfl | assumption | exact hp.old0 (by assumption))); (first | exact fI rfl | exact fP rfl | exact fS rfl))))
            refine WP_draw mixed (by kernel_rfl) (fun w' => Hp _ _ w' _) hp.drew ?_
            have hp := hp.drew
            (repeat (first | ((apply wdp; exact rfl); (intro w hp; intros; ((first | apply pv_move | (apply pf_load; exact rfl) | (apply pf_index; exact rfl)) <;> (first | exact rfl | assumption))); (intros; (first | exact fI rfl | exact fP rfl | exact fS rfl))) | (apply wdpF; exact rfl; exact rfl; exact rfl; exact rfl) | (apply wdpU; exact rfl; exact rfl; exact rfl)))
            (apply wdp; exact rfl; (intro w hp; exact pf_load rfl rfl (own_elem hp 1 rfl hsB (fun _ => rfl) hgs 0 _ rfl)); exact fB rfl)
            (apply wdp; exact rfl; (intro w hp; exact pv_not rfl); exact bool_eq (b := true) rfl)
            (apply wdp; exact rfl; (intro w hp; exact pv_move); exact rfl)
            (apply wdpT; exact rfl; exact rfl; exact rfl; (intro w hp; exact pv_move); exact rfl)
            (apply wdpT; exact rfl; exact rfl; exact rfl; (intro w hp; exact pv_move); exact rfl)
            (apply wdpT; exact rfl; exact rfl; exact rfl; (intro w hp; exact pf_index rfl rfl rfl hsE hyl); exact fP rfl)
            (apply wdpT; exact rfl; exact rfl; exact rfl; (intro w hp; exact pf_field rfl rfl); exact fP rfl)
            (apply wdpT; exact rfl; exact rfl; exact rfl; (intro w hp; exact pf_load rfl rfl (hp.old0 hy2)); exact fI rfl)
            (apply wdpT; exact rfl; exact rfl; exact rfl; (intro w hp; exact pv_neq rfl rfl); exact bool_eq (b := false) (by rw [decide_eq_true hf0]; rfl))
            (apply wdp; exact rfl; (intro w hp; exact pv_andT rfl rfl); exact fB rfl)
            (repeat (first | ((apply wdp; exact rfl); (intro w hp; intros; (first | apply pv_move | exact pv_andF rfl)); (intros; exact fB rfl)) | (apply wdpF; exact rfl; exact rfl; exact rfl; exact rfl) | (apply wdpU; exact rfl; exact rfl; exact rfl)))
            refine wpd_nil ?_
            refine WP_cond_f rfl ?_
            (repeat (first | (with_reducible first | apply WP_region | apply thenQ_n | apply inBlk_n | apply WP_skip) | (apply wlp; apply pv_move; exact fI rfl)))
            (apply wlp; (exact pv_add rfl rfl); exact int_eq (b := ((k + 1 : Nat) : Int)) (by rw [i64_in (by omega) (by omega)]; omega))
            (repeat (first | (with_reducible first | apply wpl_nil | apply thenQ_n) | (apply wlp; apply pv_assign; exact fI rfl)))
            refine ⟨(k + 1, sB, cB), put_self (put_self (Same.eq (by repeat (first | exact Same.hav | exact Same.refl | refine Same.put rfl ?_ | refine Same.havs rfl ?_))) (by show Value.slice sB (D1 ++ fl r D1 (ord.take k)).length cB = _; rw [hft])) rfl, ⟨by dsimp only; omega, by dsimp only; rw [hft]; exact hvB, by dsimp only; rw [hft]; exact hp⟩, by dsimp only; omega⟩
          · by_cases hf1 : ey.fam = eq.fam
            · have hf2 : ¬ ey.cls = eq.cls := fun e => hm (by unfold relB; rw [decide_eq_false hf0, decide_eq_true hf1, decide_eq_true e]; rfl)
              (repeat (first | (with_reducible first | apply WP_seq | apply WP_block | apply WP_region | apply wpl_nil | apply thenQ_n | apply WP_skip) | (apply wlp; ((first | apply pv_move | apply pv_assign | (apply pf_load; exact rfl) | (apply pf_index; exact rfl)) <;> (first | exact rfl | assumption | exact hp.old0 (by assumption))); (first | exact fI rfl | exact fP rfl | exact fS rfl))))
              refine WP_draw mixed (by kernel_rfl) (fun w' => Hp _ _ w' _) hp.drew ?_
              have hp := hp.drew
              (repeat (first | ((apply wdp; exact rfl); (intro w hp; intros; ((first | apply pv_move | (apply pf_load; exact rfl) | (apply pf_index; exact rfl)) <;> (first | exact rfl | assumption))); (intros; (first | exact fI rfl | exact fP rfl | exact fS rfl))) | (apply wdpF; exact rfl; exact rfl; exact rfl; exact rfl) | (apply wdpU; exact rfl; exact rfl; exact rfl)))
              (apply wdp; exact rfl; (intro w hp; exact pf_load rfl rfl (own_elem hp 1 rfl hsB (fun _ => rfl) hgs 0 _ rfl)); exact fB rfl)
              (apply wdp; exact rfl; (intro w hp; exact pv_not rfl); exact bool_eq (b := true) rfl)
              (apply wdp; exact rfl; (intro w hp; exact pv_move); exact rfl)
              (apply wdpT; exact rfl; exact rfl; exact rfl; (intro w hp; exact pv_move); exact rfl)
              (apply wdpT; exact rfl; exact rfl; exact rfl; (intro w hp; exact pv_move); exact rfl)
              (apply wdpT; exact rfl; exact rfl; exact rfl; (intro w hp; exact pf_index rfl rfl rfl hsE hyl); exact fP rfl)
              (apply wdpT; exact rfl; exact rfl; exact rfl; (intro w hp; exact pf_field rfl rfl); exact fP rfl)
              (apply wdpT; exact rfl; exact rfl; exact rfl; (intro w hp; exact pf_load rfl rfl (hp.old0 hy2)); exact fI rfl)
              (apply wdpT; exact rfl; exact rfl; exact rfl; (intro w hp; exact pv_neq rfl rfl); exact bool_eq (b := true) (by rw [decide_eq_false hf0]; rfl))
              (apply wdp; exact rfl; (intro w hp; exact pv_andT rfl rfl); exact fB rfl)
              (apply wdp; exact rfl; (intro w hp; exact pv_move); exact rfl)
              (apply wdpT; exact rfl; exact rfl; exact rfl; (intro w hp; exact pv_move); exact rfl)
              (apply wdpT; exact rfl; exact rfl; exact rfl; (intro w hp; exact pv_move); exact rfl)
              (apply wdpT; exact rfl; exact rfl; exact rfl; (intro w hp; exact pf_index rfl rfl rfl hsE hql); exact fP rfl)
              (apply wdpT; exact rfl; exact rfl; exact rfl; (intro w hp; exact pf_field rfl rfl); exact fP rfl)
              (apply wdpT; exact rfl; exact rfl; exact rfl; (intro w hp; exact pf_load rfl rfl (hp.old0 hq2)); exact fI rfl)
              (apply wdpT; exact rfl; exact rfl; exact rfl; (intro w hp; exact pv_move); exact rfl)
              (apply wdpT; exact rfl; exact rfl; exact rfl; (intro w hp; exact pv_move); exact rfl)
              (apply wdpT; exact rfl; exact rfl; exact rfl; (intro w hp; exact pf_index rfl rfl rfl hsE hyl); exact fP rfl)
              (apply wdpT; exact rfl; exact rfl; exact rfl; (intro w hp; exact pf_field rfl rfl); exact fP rfl)
              (apply wdpT; exact rfl; exact rfl; exact rfl; (intro w hp; exact pf_load rfl rfl (hp.old0 hy2)); exact fI rfl)
              (apply wdpT; exact rfl; exact rfl; exact rfl; (intro w hp; exact pv_eql rfl rfl); exact bool_eq (b := true) (decide_eq_true hf1.symm))
              (apply wdp; exact rfl; (intro w hp; exact pv_andT rfl rfl); exact fB rfl)
              (apply wdp; exact rfl; (intro w hp; exact pv_move); exact rfl)
              (apply wdpT; exact rfl; exact rfl; exact rfl; (intro w hp; exact pv_move); exact rfl)
              (apply wdpT; exact rfl; exact rfl; exact rfl; (intro w hp; exact pv_move); exact rfl)
              (apply wdpT; exact rfl; exact rfl; exact rfl; (intro w hp; exact pf_index rfl rfl rfl hsE hql); exact fP rfl)
              (apply wdpT; exact rfl; exact rfl; exact rfl; (intro w hp; exact pf_field rfl rfl); exact fP rfl)
              (apply wdpT; exact rfl; exact rfl; exact rfl; (intro w hp; exact pf_load rfl rfl (hp.old0 hq1)); exact fI rfl)
              (apply wdpT; exact rfl; exact rfl; exact rfl; (intro w hp; exact pv_move); exact rfl)
              (apply wdpT; exact rfl; exact rfl; exact rfl; (intro w hp; exact pv_move); exact rfl)
              (apply wdpT; exact rfl; exact rfl; exact rfl; (intro w hp; exact pf_index rfl rfl rfl hsE hyl); exact fP rfl)
              (apply wdpT; exact rfl; exact rfl; exact rfl; (intro w hp; exact pf_field rfl rfl); exact fP rfl)
              (apply wdpT; exact rfl; exact rfl; exact rfl; (intro w hp; exact pf_load rfl rfl (hp.old0 hy1)); exact fI rfl)
              (apply wdpT; exact rfl; exact rfl; exact rfl; (intro w hp; exact pv_eql rfl rfl); exact bool_eq (b := false) (decide_eq_false (fun e => hf2 e.symm)))
              (apply wdp; exact rfl; (intro w hp; exact pv_andT rfl rfl); exact fB rfl)
              (repeat (first | (apply wdpF; exact rfl; exact rfl; exact rfl; exact rfl) | (apply wdpU; exact rfl; exact rfl; exact rfl)))
              refine wpd_nil ?_
              refine WP_cond_f rfl ?_
              (repeat (first | (with_reducible first | apply WP_region | apply thenQ_n | apply inBlk_n | apply WP_skip) | (apply wlp; apply pv_move; exact fI rfl)))
              (apply wlp; (exact pv_add rfl rfl); exact int_eq (b := ((k + 1 : Nat) : Int)) (by rw [i64_in (by omega) (by omega)]; omega))
              (repeat (first | (with_reducible first | apply wpl_nil | apply thenQ_n) | (apply wlp; apply pv_assign; exact fI rfl)))
              refine ⟨(k + 1, sB, cB), put_self (put_self (Same.eq (by repeat (first | exact Same.hav | exact Same.refl | refine Same.put rfl ?_ | refine Same.havs rfl ?_))) (by show Value.slice sB (D1 ++ fl r D1 (ord.take k)).length cB = _; rw [hft])) rfl, ⟨by dsimp only; omega, by dsimp only; rw [hft]; exact hvB, by dsimp only; rw [hft]; exact hp⟩, by dsimp only; omega⟩
            · (repeat (first | (with_reducible first | apply WP_seq | apply WP_block | apply WP_region | apply wpl_nil | apply thenQ_n | apply WP_skip) | (apply wlp; ((first | apply pv_move | apply pv_assign | (apply pf_load; exact rfl) | (apply pf_index; exact rfl)) <;> (first | exact rfl | assumption | exact hp.old0 (by assumption))); (first | exact fI rfl | exact fP rfl | exact fS rfl))))
              refine WP_draw mixed (by kernel_rfl) (fun w' => Hp _ _ w' _) hp.drew ?_
              have hp := hp.drew
              (repeat (first | ((apply wdp; exact rfl); (intro w hp; intros; ((first | apply pv_move | (apply pf_load; exact rfl) | (apply pf_index; exact rfl)) <;> (first | exact rfl | assumption))); (intros; (first | exact fI rfl | exact fP rfl | exact fS rfl))) | (apply wdpF; exact rfl; exact rfl; exact rfl; exact rfl) | (apply wdpU; exact rfl; exact rfl; exact rfl)))
              (apply wdp; exact rfl; (intro w hp; exact pf_load rfl rfl (own_elem hp 1 rfl hsB (fun _ => rfl) hgs 0 _ rfl)); exact fB rfl)
              (apply wdp; exact rfl; (intro w hp; exact pv_not rfl); exact bool_eq (b := true) rfl)
              (apply wdp; exact rfl; (intro w hp; exact pv_move); exact rfl)
              (apply wdpT; exact rfl; exact rfl; exact rfl; (intro w hp; exact pv_move); exact rfl)
              (apply wdpT; exact rfl; exact rfl; exact rfl; (intro w hp; exact pv_move); exact rfl)
              (apply wdpT; exact rfl; exact rfl; exact rfl; (intro w hp; exact pf_index rfl rfl rfl hsE hyl); exact fP rfl)
              (apply wdpT; exact rfl; exact rfl; exact rfl; (intro w hp; exact pf_field rfl rfl); exact fP rfl)
              (apply wdpT; exact rfl; exact rfl; exact rfl; (intro w hp; exact pf_load rfl rfl (hp.old0 hy2)); exact fI rfl)
              (apply wdpT; exact rfl; exact rfl; exact rfl; (intro w hp; exact pv_neq rfl rfl); exact bool_eq (b := true) (by rw [decide_eq_false hf0]; rfl))
              (apply wdp; exact rfl; (intro w hp; exact pv_andT rfl rfl); exact fB rfl)
              (apply wdp; exact rfl; (intro w hp; exact pv_move); exact rfl)
              (apply wdpT; exact rfl; exact rfl; exact rfl; (intro w hp; exact pv_move); exact rfl)
              (apply wdpT; exact rfl; exact rfl; exact rfl; (intro w hp; exact pv_move); exact rfl)
              (apply wdpT; exact rfl; exact rfl; exact rfl; (intro w hp; exact pf_index rfl rfl rfl hsE hql); exact fP rfl)
              (apply wdpT; exact rfl; exact rfl; exact rfl; (intro w hp; exact pf_field rfl rfl); exact fP rfl)
              (apply wdpT; exact rfl; exact rfl; exact rfl; (intro w hp; exact pf_load rfl rfl (hp.old0 hq2)); exact fI rfl)
              (apply wdpT; exact rfl; exact rfl; exact rfl; (intro w hp; exact pv_move); exact rfl)
              (apply wdpT; exact rfl; exact rfl; exact rfl; (intro w hp; exact pv_move); exact rfl)
              (apply wdpT; exact rfl; exact rfl; exact rfl; (intro w hp; exact pf_index rfl rfl rfl hsE hyl); exact fP rfl)
              (apply wdpT; exact rfl; exact rfl; exact rfl; (intro w hp; exact pf_field rfl rfl); exact fP rfl)
              (apply wdpT; exact rfl; exact rfl; exact rfl; (intro w hp; exact pf_load rfl rfl (hp.old0 hy2)); exact fI rfl)
              (apply wdpT; exact rfl; exact rfl; exact rfl; (intro w hp; exact pv_eql rfl rfl); exact bool_eq (b := false) (decide_eq_false (fun e => hf1 e.symm)))
              (apply wdp; exact rfl; (intro w hp; exact pv_andT rfl rfl); exact fB rfl)
              (repeat (first | ((apply wdp; exact rfl); (intro w hp; intros; (first | apply pv_move | exact pv_andF rfl)); (intros; exact fB rfl)) | (apply wdpF; exact rfl; exact rfl; exact rfl; exact rfl) | (apply wdpU; exact rfl; exact rfl; exact rfl)))
              refine wpd_nil ?_
              refine WP_cond_f rfl ?_
              (repeat (first | (with_reducible first | apply WP_region | apply thenQ_n | apply inBlk_n | apply WP_skip) | (apply wlp; apply pv_move; exact fI rfl)))
              (apply wlp; (exact pv_add rfl rfl); exact int_eq (b := ((k + 1 : Nat) : Int)) (by rw [i64_in (by omega) (by omega)]; omega))
              (repeat (first | (with_reducible first | apply wpl_nil | apply thenQ_n) | (apply wlp; apply pv_assign; exact fI rfl)))
              refine ⟨(k + 1, sB, cB), put_self (put_self (Same.eq (by repeat (first | exact Same.hav | exact Same.refl | refine Same.put rfl ?_ | refine Same.havs rfl ?_))) (by show Value.slice sB (D1 ++ fl r D1 (ord.take k)).length cB = _; rw [hft])) rfl, ⟨by dsimp only; omega, by dsimp only; rw [hft]; exact hvB, by dsimp only; rw [hft]; exact hp⟩, by dsimp only; omega⟩
    have e : ord.take k = ord := List.take_of_length_le (by omega)
    rw [e] at hvB hp ⊢
    (repeat (first | (with_reducible first | apply thenQ_n | apply inBlk_n | apply thenQ_exit | apply WP_exit) | ((with_reducible apply inBlk_same); exact rfl)))
    refine ⟨(D1 ++ fl r D1 ord, sB, cB), put_self (Same.eq (by repeat (first | exact Same.hav | exact Same.refl | refine Same.put rfl ?_ | refine Same.havs rfl ?_))) rfl, ⟨hI2, hvB, hp⟩, by dsimp only; rw [List.length_append]; omega⟩
  have hDe := hI.done hOrd (by omega)
  rw [hDe] at hvD hp ⊢
  (repeat (first | (with_reducible first | apply WP_seq | apply WP_region | apply wpl_nil | apply thenQ_n | apply thenQ_exit | apply WP_ret | apply WP_exit) | ((with_reducible apply inBlk_same); exact rfl) | (apply wlp; (first | apply pv_move | apply pv_assign); exact fS rfl)))
  exact ret_tmp rfl rfl ⟨_, rfl, sD, cD, rfl, hvD, hp.pick 0 rfl⟩
end Go.Proofs.YtfjbioghpgmkiaaGreatDoor
/- What the reference's Stable asks is what the only stable list has; plain. -/
namespace Go.Proofs.YtfjbioghpgmkiaaGreatDoor
open Go.Eng Go.Dig

def tk (n : Nat) (T : List Int) (k : Nat) : Int := ((tnS n T).1[k]?).getD 0
/-- what it asks of the wish w of the entrant k -/
def RW (l : List En) (ps : List (ByteArray × Int)) (T : List Int) (x : List ByteArray) (k : Nat) (w : ByteArray) : Prop :=
  (stO ps w).isSome = true → (cS x w : Int) = max ((stO ps w).getD 0) 0 ∧ ∀ i : Nat, i < l.length → xa x (i : Int) = w → ¬ tk l.length T k < tk l.length T i
structure RSk (l : List En) (ps : List (ByteArray × Int)) (T : List Int) (x : List ByteArray) (k : Nat) : Prop where
  a : xa x (k : Int) ≠ noN → (stO ps (xa x (k : Int))).isSome = true ∧ (cS x (xa x (k : Int)) : Int) ≤ max ((stO ps (xa x (k : Int))).getD 0) 0 ∧ xa x (k : Int) ∈ wsh l (k : Int)
  b : ∀ w ∈ bef (wsh l (k : Int)) (xa x (k : Int)), RW l ps T x k w
theorem tk_pos {n : Nat} {T A B : List Int} {k : Nat} (hT : Ord n T) (h : T = A ++ (k : Int) :: B) : tk n T k = (A.length : Int) := by
  have := tn_pos hT h
  rw [Int.toNat_natCast] at this
  unfold tk
  rw [this]
  rfl
theorem tk_some {n : Nat} {T : List Int} {k : Nat} (hk : k < n) : (tnS n T).1[((k : Nat) : Int).toNat]? = some (tk n T k) := by
  have hl := (tnS_num n T).2
  rw [Int.toNat_natCast]
  unfold tk
  rw [List.getElem?_eq_getElem (by omega)]
  rfl
theorem cS_ex {x : List ByteArray} {w : ByteArray} (h : 0 < cS x w) : ∃ i : Nat, i < x.length ∧ xa x (i : Int) = w := by
  obtain ⟨y, hy, hyw⟩ := List.countP_pos_iff.1 h
  obtain ⟨i, hi, hie⟩ := List.getElem_of_mem hy
  refine ⟨i, hi, ?_⟩
  unfold xa
  rw [Int.toNat_natCast, List.getElem?_eq_getElem hi, hie]
  simpa using hyw
theorem cS_pos {x : List ByteArray} {i : Nat} (hi : i < x.length) : 0 < cS x (xa x (i : Int)) := by
  refine List.countP_pos_iff.2 ⟨x[i], List.getElem_mem hi, ?_⟩
  unfold xa
  rw [Int.toNat_natCast, List.getElem?_eq_getElem hi]
  simp
theorem rs_iff {l : List En} {ps : List (ByteArray × Int)} {T : List Int} {x : List ByteArray} (hT : Ord l.length T) (hx : x.length = l.length) : (∀ k, k < l.length → RSk l ps T x k) ↔ Stb l ps T x := by
  have hck : ∀ k ∈ T, ∃ n : Nat, k = n ∧ n < l.length := fun k hk => ⟨k.toNat, by have := hT.bd k hk; omega, by have := hT.bd k hk; omega⟩
  constructor
  · intro h
    refine ⟨fun k hk hne => ?_, fun w hw => ?_, fun A k B hTe w hw hs => ?_⟩
    · obtain ⟨n, rfl, hn⟩ := hck k hk
      exact ((h n hn).a hne).2.2
    · by_cases hc : 0 < cS x w
      · obtain ⟨i, hi, hiw⟩ := cS_ex hc
        have := (h i (by omega)).a (by rw [hiw]; exact hw)
        rw [hiw] at this
        exact this.2.1
      · omega
    · obtain ⟨n, rfl, hn⟩ := hck k (by rw [hTe]; simp)
      obtain ⟨h1, h2⟩ := (h n hn).b w hw hs
      refine ⟨h1, fun j hj hjw => ?_⟩
      have hjT : j ∈ T := by rw [hTe]; simp [hj]
      obtain ⟨m, rfl, hm⟩ := hck j hjT
      refine h2 m hm hjw ?_
      rw [tk_pos hT hTe]
      exact (tn_after hT hTe hjT (tk_some hm)).2 hj
  · intro h n hn
    have hnT : (n : Int) ∈ T := hT.all _ (by omega) (by omega)
    refine ⟨fun hne => ?_, fun w hw hs => ?_⟩
    · have h1 := h.cap _ hne
      have h2 := cS_pos (x := x) (i := n) (by omega)
      refine ⟨?_, h1, h.mem _ hnT hne⟩
      cases hq : stO ps (xa x (n : Int)) with
      | none =>
        rw [hq] at h1
        have : max ((none : Option Int).getD 0) 0 = 0 := rfl
        omega
      | some v => rfl
    · obtain ⟨A, B, hTe⟩ := List.append_of_mem hnT
      obtain ⟨h1, h2⟩ := h.bet A (n : Int) B hTe w hw hs
      refine ⟨h1, fun i hi hiw hlt => ?_⟩
      have hiT : (i : Int) ∈ T := hT.all _ (by omega) (by omega)
      rw [tk_pos hT hTe] at hlt
      exact h2 _ ((tn_after hT hTe hiT (tk_some hi)).1 hlt) hiw

/-! the wishes ahead of a place, as the loop meets them -/
def brk (p w : ByteArray) : Prop := w = p ∧ w ≠ noN
theorem bef_mem {ws : List ByteArray} {p : ByteArray} {j : Nat} (hj : j < ws.length) (h : ∀ w ∈ ws.take j, ¬ brk p w) (h2 : ¬ brk p ws[j]) : ws[j] ∈ bef ws p := by
  unfold bef
  by_cases hp : p = noN
  · rw [if_pos hp]
    exact List.getElem_mem hj
  · rw [if_neg hp]
    have hsp : ws = ws.take j ++ ws[j] :: ws.drop (j + 1) := by rw [List.getElem_cons_drop, List.take_append_drop]
    have hne : ∀ w, ¬ brk p w → (!decide (w = p)) = true := fun w hw => by
      have : ¬ w = p := fun e => hw ⟨e, by rw [e]; exact hp⟩
      simp [this]
    have e : (ws.takeWhile fun y => !decide (y = p)) = ws.take j ++ (ws[j] :: ws.drop (j + 1)).takeWhile fun y => !decide (y = p) := by
      conv => lhs; rw [hsp]
      rw [List.takeWhile_append_of_pos (fun w hw => hne w (h w hw))]
    have hn : ¬ ws[j] = p := fun e => h2 ⟨e, by rw [e]; exact hp⟩
    rw [e, List.takeWhile_cons]
    simp [hn]
theorem bef_stop {ws : List ByteArray} {p : ByteArray} {j : Nat} (hj : j < ws.length) (h : ∀ w ∈ ws.take j, ¬ brk p w) (h2 : brk p ws[j]) : bef ws p = ws.take j := by
  have hp : p ≠ noN := by rw [← h2.1]; exact h2.2
  unfold bef
  rw [if_neg hp]
  have hsp : ws = ws.take j ++ ws[j] :: ws.drop (j + 1) := by rw [List.getElem_cons_drop, List.take_append_drop]
  have hne : ∀ w, ¬ brk p w → (!decide (w = p)) = true := fun w hw => by
    have : ¬ w = p := fun e => hw ⟨e, by rw [e]; exact hp⟩
    simp [this]
  conv => lhs; rw [hsp]
  rw [List.takeWhile_append_of_pos (fun w hw => hne w (h w hw)), List.takeWhile_cons_of_neg (by simp [h2.1]), List.append_nil]
theorem bef_all {ws : List ByteArray} {p : ByteArray} (h : ∀ w ∈ ws, ¬ brk p w) : bef ws p = ws := by
  unfold bef
  by_cases hp : p = noN
  · rw [if_pos hp]
  · rw [if_neg hp]
    have := List.takeWhile_append_of_pos (p := fun y => !decide (y = p)) (l₁ := ws) (l₂ := []) (fun w hw => by
      have : ¬ w = p := fun e => h w hw ⟨e, by rw [e]; exact hp⟩
      simp [this])
    simpa using this
theorem iff_no {n : Nat} {P : Nat → Prop} {k : Nat} (hk : k < n) (h : ¬ P k) : (false = true ↔ ∀ k, k < n → P k) := ⟨fun h => (by cases h), fun hh => absurd (hh k hk) h⟩
end Go.Proofs.YtfjbioghpgmkiaaGreatDoor
