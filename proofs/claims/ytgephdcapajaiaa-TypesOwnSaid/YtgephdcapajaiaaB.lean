/- Layer 14: rules as Lean data; the checks of the name, the kind and the plain fields; conditions: the rules lie in memory. -/
import Derived.Test.YtgephdcapajaiaaA
namespace Go.Proofs.Ytgephdcapajaiaa
open Go.Eng
attribute [local irreducible] PV StepF wpl wpd WP Ret

theorem neT {b : Bool} (h : b = false) : ¬ b = true := by rw [h]; simp

structure Dr where
  name : ByteArray
  kind : Int
  round : Int
  price : Int
  pool : Int
  pick : Int
  tiers : List (Int × Int)
  roll : Bool
  places : List (ByteArray × Int)
  cls : Int
  size : Int
  quotas : List (ByteArray × Int × Int)
  barred : List Int

/-- where the lists of rules lie -/
structure DrA where
  sT : Option Addr
  cT : Nat
  sP : Option Addr
  cP : Nat
  sQ : Option Addr
  cQ : Nat
  sB : Option Addr
  cB : Nat

def drV (d : Dr) (a : DrA) : Value := .agg #[.string d.name, .int .i64 d.kind, .int .i64 d.round, .int .i64 d.price, .int .i64 d.pool, .int .i64 d.pick, .slice a.sT d.tiers.length a.cT, .bool d.roll, .slice a.sP d.places.length a.cP, .int .i64 d.cls, .int .i64 d.size, .slice a.sQ d.quotas.length a.cQ, .slice a.sB d.barred.length a.cB]

def eT (x : Int × Int) : List Value := [.int .i64 x.1, .int .i64 x.2]
def eP (x : ByteArray × Int) : List Value := [.string x.1, .int .i64 x.2]
def eQ (x : ByteArray × Int × Int) : List Value := [.string x.1, .int .i64 x.2.1, .int .i64 x.2.2]

structure DrAt (w : World) (d : Dr) (a : DrA) : Prop where
  tiers : SlAt w 2 eT a.sT d.tiers
  places : SlAt w 2 eP a.sP d.places
  quotas : SlAt w 3 eQ a.sQ d.quotas
  barred : SlAt w 1 eI a.sB d.barred

theorem DrAt.keep {w w' : World} {d : Dr} {a : DrA} (h : DrAt w d a) (hk : Keeps [] w w') : DrAt w' d a := ⟨h.tiers.keep0 hk, h.places.keep0 hk, h.quotas.keep0 hk, h.barred.keep0 hk⟩

def ckName (d : Dr) : Int := if isWordB d.name = true then 0 else 13
def lotE (d : Dr) : Bool := decide (d.pool = 0) && decide (d.pick = 0) && decide ((d.tiers.length : Int) = 0) && !d.roll
def balE (d : Dr) : Bool := decide ((d.places.length : Int) = 0) && decide (d.cls = 0)
def panE (d : Dr) : Bool := decide (d.size = 0) && decide ((d.quotas.length : Int) = 0)
def ckKind (d : Dr) : Int :=
  if (decide (d.kind = 1) && balE d && panE d) = true then 0
  else if (decide (d.kind = 2) && lotE d && panE d) = true then 0
  else if (decide (d.kind = 3) && lotE d && balE d) = true then 0
  else 14

theorem c49 (d : Dr) (a : DrA) (w : World) : Ret Try.prog 49 [drV d a] w (fun v w' => v = .int .i64 (ckName d) ∧ Keeps [] w w') := by
  refine Ret.of_WP Try.func49 rfl Try.ntmps49 rfl ?_
  have hp := Hp.start (M := []) (w := w)
  (repeat (first | (with_reducible first | apply WP_seq | apply WP_region | apply wpl_nil | apply thenQ_n) | (apply wlp; ((first | apply pv_assign | apply pf_field | (apply pf_load; exact rfl)) <;> (first | exact rfl | exact hp.cell 0 rfl rfl)); (first | exact fI rfl | exact fP rfl | exact fT rfl)) | (apply wls; exact sbox13 hp rfl; rintro _ w ⟨b, rfl, hp⟩)))
  (apply wls; exact st_call rfl ent68 rfl (c68 _ _))
  rintro _ w' ⟨rfl, hk⟩
  have hp := hp.call hk
  (repeat (first | (with_reducible first | apply wpl_nil | apply thenQ_n) | (apply wlp; (apply pv_not <;> exact rfl); exact fB rfl)))
  refine WP_cond rfl (fun h => ?_) (fun h => ?_)
  · (repeat (first | (with_reducible first | apply WP_seq | apply WP_region | apply wpl_nil | apply thenQ_n | apply thenQ_ret | apply WP_ret) | (apply wlp; exact pv_assign; exact rfl)))
    exact ret_tmp rfl rfl ⟨_, rfl, int_eq (by simp at h; simp [ckName, h]), hp.keeps⟩
  · (repeat (first | (with_reducible first | apply WP_seq | apply WP_region | apply wpl_nil | apply thenQ_n | apply WP_ret | apply WP_skip) | (apply wlp; exact pv_assign; exact rfl)))
    exact ret_tmp rfl rfl ⟨_, rfl, int_eq (by simp at h; simp [ckName, h]), hp.keeps⟩

theorem c50 (d : Dr) (a : DrA) (w : World) : Ret Try.prog 50 [drV d a] w (fun v w' => v = .int .i64 (ckKind d) ∧ Keeps [] w w') := by
  refine Ret.of_WP Try.func50 rfl Try.ntmps50 rfl ?_
  have hp := Hp.start (M := []) (w := w)
  (repeat (first | (with_reducible first | apply WP_seq | apply WP_block | apply WP_region | apply wpl_nil | apply thenQ_n) | ((first | apply wlp | (apply wlg; exact rfl; exact rfl)); (intros; ((first | apply pv_move | apply pv_assign | apply pf_field | (apply pf_load; exact rfl) | (apply pf_len; exact rfl) | exact pv_and rfl rfl rfl | (apply pv_eql; (first | exact rfl | exact ev_sel rfl (by assumption))) | apply pv_not) <;> (first | exact rfl | exact ev_sel rfl (by assumption) | exact hp.cell 0 rfl rfl))); (intros; (first | exact fI rfl | exact fB rfl | exact fP rfl | exact fS rfl))) | (apply wls; exact sbox13 hp rfl; rintro _ w ⟨b, rfl, hp⟩)))
  refine WP_cond rfl (fun h1 => ?_) (fun h1 => ?_)
  · (repeat (first | (with_reducible first | apply WP_seq | apply WP_region | apply wpl_nil | apply thenQ_n | apply thenQ_ret | apply inBlk_ret | apply WP_ret) | (apply wlp; exact pv_assign; exact rfl)))
    exact ret_tmp rfl rfl ⟨_, rfl, int_eq (Eq.symm (if_pos h1)), hp.keeps⟩
  have h1 : ¬ (decide (d.kind = 1) && balE d && panE d) = true := neT h1
  (repeat (first | (with_reducible first | apply WP_seq | apply WP_region | apply wpl_nil | apply thenQ_n) | ((first | apply wlp | (apply wlg; exact rfl; exact rfl)); (intros; ((first | apply pv_move | apply pv_assign | apply pf_field | (apply pf_load; exact rfl) | exact pv_and rfl rfl rfl | (apply pv_eql; (first | exact rfl | exact ev_sel rfl (by assumption)))) <;> (first | exact rfl | exact hp.cell 0 rfl rfl))); (intros; (first | exact fI rfl | exact fB rfl | exact fP rfl)))))
  refine WP_cond rfl (fun h2 => ?_) (fun h2 => ?_)
  · (repeat (first | (with_reducible first | apply WP_seq | apply WP_region | apply wpl_nil | apply thenQ_n | apply thenQ_ret | apply inBlk_ret | apply WP_ret) | (apply wlp; exact pv_assign; exact rfl)))
    exact ret_tmp rfl rfl ⟨_, rfl, int_eq (Eq.symm ((if_neg h1).trans (if_pos h2))), hp.keeps⟩
  have h2 : ¬ (decide (d.kind = 2) && lotE d && panE d) = true := neT h2
  (repeat (first | (with_reducible first | apply WP_seq | apply WP_region | apply wpl_nil | apply thenQ_n) | ((first | apply wlp | (apply wlg; exact rfl; exact rfl)); (intros; ((first | apply pv_move | apply pv_assign | apply pf_field | (apply pf_load; exact rfl) | exact pv_and rfl rfl rfl | (apply pv_eql; (first | exact rfl | exact ev_sel rfl (by assumption)))) <;> (first | exact rfl | exact hp.cell 0 rfl rfl))); (intros; (first | exact fI rfl | exact fB rfl | exact fP rfl)))))
  refine WP_cond rfl (fun h3 => ?_) (fun h3 => ?_)
  · (repeat (first | (with_reducible first | apply WP_seq | apply WP_region | apply wpl_nil | apply thenQ_n | apply thenQ_ret | apply inBlk_ret | apply WP_ret) | (apply wlp; exact pv_assign; exact rfl)))
    exact ret_tmp rfl rfl ⟨_, rfl, int_eq (Eq.symm ((if_neg h1).trans ((if_neg h2).trans (if_pos h3)))), hp.keeps⟩
  have h3 : ¬ (decide (d.kind = 3) && lotE d && balE d) = true := neT h3
  (repeat (first | (with_reducible first | apply WP_seq | apply WP_region | apply wpl_nil | apply thenQ_n | apply inBlk_n | apply WP_ret | apply WP_skip) | (apply wlp; exact pv_assign; exact rfl)))
  exact ret_tmp rfl rfl ⟨_, rfl, int_eq (Eq.symm ((if_neg h1).trans ((if_neg h2).trans (if_neg h3)))), hp.keeps⟩

theorem c51 (d : Dr) (a : DrA) (w : World) : Ret Try.prog 51 [drV d a] w (fun v w' => v = .int .i64 (within d.round 1 1000000000) ∧ Keeps [] w w') := by
  refine Ret.of_WP Try.func51 rfl Try.ntmps51 rfl ?_
  have hp := Hp.start (M := []) (w := w)
  (repeat (first | (with_reducible first | apply WP_seq | apply WP_region | apply wpl_nil | apply thenQ_n) | (apply wlp; ((first | apply pv_assign | apply pf_field | (apply pf_load; exact rfl)) <;> (first | exact rfl | exact hp.cell 0 rfl rfl)); (first | exact fI rfl | exact fP rfl)) | (apply wls; exact sbox13 hp rfl; rintro _ w ⟨b, rfl, hp⟩)))
  (apply wls; exact st_call rfl ent37 rfl (c37 _ _ _ _))
  rintro _ w' ⟨rfl, hk⟩
  have hp := hp.call hk
  (repeat (first | (with_reducible first | apply wpl_nil | apply thenQ_n | apply WP_ret) | (apply wlp; exact pv_assign; exact rfl)))
  exact ret_tmp rfl rfl ⟨_, rfl, rfl, hp.keeps⟩
theorem c52 (d : Dr) (a : DrA) (w : World) : Ret Try.prog 52 [drV d a] w (fun v w' => v = .int .i64 (within d.price 0 1000000) ∧ Keeps [] w w') := by
  refine Ret.of_WP Try.func52 rfl Try.ntmps52 rfl ?_
  have hp := Hp.start (M := []) (w := w)
  (repeat (first | (with_reducible first | apply WP_seq | apply WP_region | apply wpl_nil | apply thenQ_n) | (apply wlp; ((first | apply pv_assign | apply pf_field | (apply pf_load; exact rfl)) <;> (first | exact rfl | exact hp.cell 0 rfl rfl)); (first | exact fI rfl | exact fP rfl)) | (apply wls; exact sbox13 hp rfl; rintro _ w ⟨b, rfl, hp⟩)))
  (apply wls; exact st_call rfl ent37 rfl (c37 _ _ _ _))
  rintro _ w' ⟨rfl, hk⟩
  have hp := hp.call hk
  (repeat (first | (with_reducible first | apply wpl_nil | apply thenQ_n | apply WP_ret) | (apply wlp; exact pv_assign; exact rfl)))
  exact ret_tmp rfl rfl ⟨_, rfl, rfl, hp.keeps⟩
theorem c54 (d : Dr) (a : DrA) (w : World) : Ret Try.prog 54 [drV d a] w (fun v w' => v = .int .i64 (within d.pool 1 60) ∧ Keeps [] w w') := by
  refine Ret.of_WP Try.func54 rfl Try.ntmps54 rfl ?_
  have hp := Hp.start (M := []) (w := w)
  (repeat (first | (with_reducible first | apply WP_seq | apply WP_region | apply wpl_nil | apply thenQ_n) | (apply wlp; ((first | apply pv_assign | apply pf_field | (apply pf_load; exact rfl)) <;> (first | exact rfl | exact hp.cell 0 rfl rfl)); (first | exact fI rfl | exact fP rfl)) | (apply wls; exact sbox13 hp rfl; rintro _ w ⟨b, rfl, hp⟩)))
  (apply wls; exact st_call rfl ent37 rfl (c37 _ _ _ _))
  rintro _ w' ⟨rfl, hk⟩
  have hp := hp.call hk
  (repeat (first | (with_reducible first | apply wpl_nil | apply thenQ_n | apply WP_ret) | (apply wlp; exact pv_assign; exact rfl)))
  exact ret_tmp rfl rfl ⟨_, rfl, rfl, hp.keeps⟩
theorem c55 (d : Dr) (a : DrA) (w : World) : Ret Try.prog 55 [drV d a] w (fun v w' => v = .int .i64 (within d.pick 1 (min 10 d.pool)) ∧ Keeps [] w w') := by
  refine Ret.of_WP Try.func55 rfl Try.ntmps55 rfl ?_
  have hp := Hp.start (M := []) (w := w)
  (repeat (first | (with_reducible first | apply WP_seq | apply WP_region | apply wpl_nil | apply thenQ_n) | (apply wlp; ((first | apply pv_assign | apply pf_field | (apply pf_load; exact rfl) | apply pv_min) <;> (first | exact rfl | exact hp.cell 0 rfl rfl)); (first | exact fI rfl | exact fP rfl)) | (apply wls; exact sbox13 hp rfl; rintro _ w ⟨b, rfl, hp⟩)))
  (apply wls; exact st_call rfl ent37 rfl (c37 _ _ _ _))
  rintro _ w' ⟨rfl, hk⟩
  have hp := hp.call hk
  (repeat (first | (with_reducible first | apply wpl_nil | apply thenQ_n | apply WP_ret) | (apply wlp; exact pv_assign; exact rfl)))
  exact ret_tmp rfl rfl ⟨_, rfl, rfl, hp.keeps⟩
theorem c58 (d : Dr) (a : DrA) (w : World) : Ret Try.prog 58 [drV d a] w (fun v w' => v = .int .i64 (within d.cls 0 9) ∧ Keeps [] w w') := by
  refine Ret.of_WP Try.func58 rfl Try.ntmps58 rfl ?_
  have hp := Hp.start (M := []) (w := w)
  (repeat (first | (with_reducible first | apply WP_seq | apply WP_region | apply wpl_nil | apply thenQ_n) | (apply wlp; ((first | apply pv_assign | apply pf_field | (apply pf_load; exact rfl)) <;> (first | exact rfl | exact hp.cell 0 rfl rfl)); (first | exact fI rfl | exact fP rfl)) | (apply wls; exact sbox13 hp rfl; rintro _ w ⟨b, rfl, hp⟩)))
  (apply wls; exact st_call rfl ent37 rfl (c37 _ _ _ _))
  rintro _ w' ⟨rfl, hk⟩
  have hp := hp.call hk
  (repeat (first | (with_reducible first | apply wpl_nil | apply thenQ_n | apply WP_ret) | (apply wlp; exact pv_assign; exact rfl)))
  exact ret_tmp rfl rfl ⟨_, rfl, rfl, hp.keeps⟩
theorem c59 (d : Dr) (a : DrA) (w : World) : Ret Try.prog 59 [drV d a] w (fun v w' => v = .int .i64 (within d.size 1 40) ∧ Keeps [] w w') := by
  refine Ret.of_WP Try.func59 rfl Try.ntmps59 rfl ?_
  have hp := Hp.start (M := []) (w := w)
  (repeat (first | (with_reducible first | apply WP_seq | apply WP_region | apply wpl_nil | apply thenQ_n) | (apply wlp; ((first | apply pv_assign | apply pf_field | (apply pf_load; exact rfl)) <;> (first | exact rfl | exact hp.cell 0 rfl rfl)); (first | exact fI rfl | exact fP rfl)) | (apply wls; exact sbox13 hp rfl; rintro _ w ⟨b, rfl, hp⟩)))
  (apply wls; exact st_call rfl ent37 rfl (c37 _ _ _ _))
  rintro _ w' ⟨rfl, hk⟩
  have hp := hp.call hk
  (repeat (first | (with_reducible first | apply wpl_nil | apply thenQ_n | apply WP_ret) | (apply wlp; exact pv_assign; exact rfl)))
  exact ret_tmp rfl rfl ⟨_, rfl, rfl, hp.keeps⟩
end Go.Proofs.Ytgephdcapajaiaa
