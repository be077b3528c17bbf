/- Layer 14: comparing lists and entrants that are the same; clones; conditions: the lists lie in memory. -/
import Derived.Test.YtgephdcapajaiaaEnt5
import Derived.Laws.Cover3
import Derived.Laws.StructEq
import Derived.Tactics
namespace Go.Proofs.Ytgephdcapajaiaa
open Go.Eng
section
variable {n : Nat} {F : Fr} {w : World} {d : Option Tmp} {ty : TypeId} {pos : String} {aft : Array Edge} {g : Option (Nat × Bool)} {x y : Operand}
theorem pf_nilS {t t' e k m c : Nat} {s : Option Addr} (ht : slTy t = some (e, k)) (hx : ev n F x = .slice s m c) (hy : ev n F y = .slice none 0 0) : PV Try.prog n w F ⟨d, .binOp .eql t x y t', ty, pos, aft, g⟩ (.bool s.isNone) := by
  have h := run_equal_slice_nil (P := Try.prog) w t e s m c (slTy_ok ht).1
  simp [PV, execOp, hx, hy, eqGuard, binOp, h]
theorem eq91 (a b : Int) (w : World) : (Op.equalIn 10000 91 (.agg #[.int .i64 a, .int .i64 b]) (.agg #[.int .i64 a, .int .i64 b])).run Try.prog w = .ok true w := by
  have u3 := Try.underlying3
  have u34 := Try.underlying34
  have a3 := Try.isAgg3
  have z3 := Try.sizeOf3
  have a34 := Try.isAgg34
  have z34 := Try.sizeOf34
  have hS : Try.prog.underlying 91 = some (.struct (Try.prog.fieldsOf 91)) := by kernel_rfl
  have hp : Try.prog.stoodInHeld 91 = false := by kernel_rfl
  rw [show (10000 : Nat) = 9999 + 1 from rfl, run_equalIn_agg w 9999 91 _ _ hS hp]
  simp only [Program.fieldsOf, Try.underlying91]
  go_simp
theorem pf_neq91 {t' : Nat} {a b : Int} (hx : ev n F x = .agg #[.int .i64 a, .int .i64 b]) (hy : ev n F y = .agg #[.int .i64 a, .int .i64 b]) : PV Try.prog n w F ⟨d, .binOp .neq 91 x y t', ty, pos, aft, g⟩ (.bool false) := by
  have h := eq91 a b w
  have h2 := run_eqGuard_agg (P := Try.prog) w .neq 91 x y #[.int .i64 a, .int .i64 b] #[.int .i64 a, .int .i64 b] (by kernel_rfl)
  have h3 := run_neq_struct (P := Try.prog) w 91 #[.int .i64 a, .int .i64 b] #[.int .i64 a, .int .i64 b]
  simp [PV, execOp, hx, hy, h2, h3, h]
end
attribute [local irreducible] PV StepF wpl wpd WP Ret

theorem c69 (l : List Int) (s s2 : Option Addr) (c c2 : Nat) (w : World) (hn : l.length ≤ 9223372036854775807) (hs : SlAt w 1 eI s l) (hs2 : SlAt w 1 eI s2 l) :
    Ret Try.prog 69 [.slice s l.length c, .slice s2 l.length c2] w (fun v w' => v = .bool true ∧ Keeps [] w w') := by
  refine Ret.of_WP Try.func69 rfl Try.ntmps69 rfl ?_
  have hp := Hp.start (M := []) (w := w)
  (repeat (first | (with_reducible first | apply WP_seq | apply WP_region | apply wpl_nil | apply thenQ_n) | (apply wlp; ((first | apply pv_move | apply pv_assign | (apply pf_len; exact rfl) | (apply pv_neq; (first | exact rfl | exact ev_sel rfl (by assumption)))) <;> exact rfl); (first | exact fI rfl | exact fB rfl | exact fS rfl))))
  refine WP_cond rfl (fun h => ?_) (fun h => ?_)
  · exfalso
    simp at h
  (repeat (first | (with_reducible first | apply WP_seq | apply WP_block | apply WP_region | apply wpl_nil | apply thenQ_n | apply WP_skip) | (apply wlp; apply pv_assign; exact fI rfl)))
  refine WP_loopS [4, 5, 11, 12, 13, 14, 15, 16, 17, 18, 19, 20, 21, 22, 23, 24, 25] (fun (i : Nat) F => F.put 5 (.int .i64 i)) (fun i w' => i ≤ l.length ∧ Hp w [] w' []) (fun i => l.length - i) 0 (put_self (Same.eq .refl) rfl) ⟨Nat.zero_le _, hp⟩ ?_
  clear hp
  rintro u i w1 ⟨hi, hp⟩
  (repeat (first | (with_reducible first | apply WP_seq | apply WP_region | apply wpl_nil | apply thenQ_n) | (apply wlp; ((first | apply pv_move | (apply pf_len; exact rfl) | apply pv_lss) <;> exact rfl); (first | exact fI rfl | exact fB rfl | exact fS rfl))))
  refine WP_cond_d rfl (fun h2 => ?_) (fun h2 => ?_)
  · have hlt : i < l.length := by omega
    obtain ⟨b0, o0, hs0, hc0⟩ := hs.base (by omega)
    have hci := hc0 i _ (List.getElem?_eq_getElem hlt) 0 _ rfl
    obtain ⟨b1, o1, hs1, hc1⟩ := hs2.base (by omega)
    have hcj := hc1 i _ (List.getElem?_eq_getElem hlt) 0 _ rfl
    (repeat (with_reducible first | apply WP_seq | apply WP_block | apply thenQ_n | apply WP_skip))
    refine WP_draw mixed (by kernel_rfl) (fun w' => Hp _ _ w' _) hp.drew ?_
    (repeat ((apply wdp; exact rfl); (intro w hp; intros; ((first | apply pv_move | (apply pf_load; exact rfl) | (apply pv_neq; (first | exact rfl | exact ev_sel rfl (by assumption))) | (apply pf_index; exact rfl)) <;> (first | exact rfl | assumption | exact hp.old0 (by assumption)))); (intros; (first | exact fI rfl | exact fB rfl | exact fP rfl | exact fS rfl))))
    refine wpd_nil ?_
    have hp := hp.drew
    (repeat with_reducible apply thenQ_n)
    refine WP_cond rfl (fun h3 => ?_) (fun h3 => ?_)
    · exfalso
      simp at h3
    · (repeat (first | (with_reducible first | apply WP_region | apply thenQ_n | apply inBlk_n | apply WP_skip) | (apply wlp; apply pv_move; exact fI rfl)))
      (apply wlp; exact pv_add rfl rfl; exact int_eq (i64_in (by omega) (by omega)))
      (repeat (first | (with_reducible first | apply wpl_nil | apply thenQ_n) | (apply wlp; apply pv_assign; exact fI rfl)))
      exact ⟨i + 1, put_self (Same.eq (by repeat (first | exact Same.hav | exact Same.refl | refine Same.put rfl ?_ | refine Same.havs rfl ?_))) rfl, ⟨by omega, hp⟩, by omega⟩
  · (repeat (first | (with_reducible first | apply WP_seq | apply WP_region | apply wpl_nil | apply thenQ_n | apply thenQ_exit | apply WP_ret | apply WP_exit) | ((with_reducible apply inBlk_same); exact rfl) | (apply wlp; apply pv_assign; exact fB rfl)))
    exact ret_tmp rfl rfl ⟨_, rfl, rfl, hp.keeps⟩

theorem c70 (l : List ByteArray) (s s2 : Option Addr) (c c2 : Nat) (w : World) (hn : l.length ≤ 9223372036854775807) (hs : SlAt w 1 eS s l) (hs2 : SlAt w 1 eS s2 l) :
    Ret Try.prog 70 [.slice s l.length c, .slice s2 l.length c2] w (fun v w' => v = .bool true ∧ Keeps [] w w') := by
  refine Ret.of_WP Try.func70 rfl Try.ntmps70 rfl ?_
  have hp := Hp.start (M := []) (w := w)
  (repeat (first | (with_reducible first | apply WP_seq | apply WP_region | apply wpl_nil | apply thenQ_n) | (apply wlp; ((first | apply pv_move | apply pv_assign | (apply pf_len; exact rfl) | (apply pv_neq; (first | exact rfl | exact ev_sel rfl (by assumption)))) <;> exact rfl); (first | exact fI rfl | exact fB rfl | exact fS rfl))))
  refine WP_cond rfl (fun h => ?_) (fun h => ?_)
  · exfalso
    simp at h
  (repeat (first | (with_reducible first | apply WP_seq | apply WP_block | apply WP_region | apply wpl_nil | apply thenQ_n | apply WP_skip) | (apply wlp; apply pv_assign; exact fI rfl)))
  refine WP_loopS [4, 5, 11, 12, 13, 14, 15, 16, 17, 18, 19, 20, 21, 22, 23, 24, 25] (fun (i : Nat) F => F.put 5 (.int .i64 i)) (fun i w' => i ≤ l.length ∧ Hp w [] w' []) (fun i => l.length - i) 0 (put_self (Same.eq .refl) rfl) ⟨Nat.zero_le _, hp⟩ ?_
  clear hp
  rintro u i w1 ⟨hi, hp⟩
  (repeat (first | (with_reducible first | apply WP_seq | apply WP_region | apply wpl_nil | apply thenQ_n) | (apply wlp; ((first | apply pv_move | (apply pf_len; exact rfl) | apply pv_lss) <;> exact rfl); (first | exact fI rfl | exact fB rfl | exact fS rfl))))
  refine WP_cond_d rfl (fun h2 => ?_) (fun h2 => ?_)
  · have hlt : i < l.length := by omega
    obtain ⟨b0, o0, hs0, hc0⟩ := hs.base (by omega)
    have hci := hc0 i _ (List.getElem?_eq_getElem hlt) 0 _ rfl
    obtain ⟨b1, o1, hs1, hc1⟩ := hs2.base (by omega)
    have hcj := hc1 i _ (List.getElem?_eq_getElem hlt) 0 _ rfl
    (repeat (with_reducible first | apply WP_seq | apply WP_block | apply thenQ_n | apply WP_skip))
    refine WP_draw mixed (by kernel_rfl) (fun w' => Hp _ _ w' _) hp.drew ?_
    (repeat ((apply wdp; exact rfl); (intro w hp; intros; ((first | apply pv_move | (apply pf_load; exact rfl) | (apply pf_index; exact rfl) | (apply pv_sneq; (first | exact rfl | exact ev_sel rfl (by assumption)))) <;> (first | exact rfl | assumption | exact hp.old0 (by assumption)))); (intros; (first | exact fI rfl | exact fB rfl | exact fP rfl | exact fS rfl | exact fT rfl))))
    refine wpd_nil ?_
    have hp := hp.drew
    (repeat with_reducible apply thenQ_n)
    refine WP_cond rfl (fun h3 => ?_) (fun h3 => ?_)
    · exfalso
      simp at h3
    · (repeat (first | (with_reducible first | apply WP_region | apply thenQ_n | apply inBlk_n | apply WP_skip) | (apply wlp; apply pv_move; exact fI rfl)))
      (apply wlp; exact pv_add rfl rfl; exact int_eq (i64_in (by omega) (by omega)))
      (repeat (first | (with_reducible first | apply wpl_nil | apply thenQ_n) | (apply wlp; apply pv_assign; exact fI rfl)))
      exact ⟨i + 1, put_self (Same.eq (by repeat (first | exact Same.hav | exact Same.refl | refine Same.put rfl ?_ | refine Same.havs rfl ?_))) rfl, ⟨by omega, hp⟩, by omega⟩
  · (repeat (first | (with_reducible first | apply WP_seq | apply WP_region | apply wpl_nil | apply thenQ_n | apply thenQ_exit | apply WP_ret | apply WP_exit) | ((with_reducible apply inBlk_same); exact rfl) | (apply wlp; apply pv_assign; exact fB rfl)))
    exact ret_tmp rfl rfl ⟨_, rfl, rfl, hp.keeps⟩

theorem c46 (l : List Int) (s : Option Addr) (c : Nat) (w : World) (hn : l.length < 1000000) (hs : SlAt w 1 eI s l) :
    Ret Try.prog 46 [.slice s l.length c] w (fun v w' => ∃ s' c', v = .slice s' l.length c' ∧ SVL s' c' l ∧ Hp w [] w' [ownL eI 3 1 s' c' l]) := by
  refine Ret.of_WP Try.func46 rfl Try.ntmps46 rfl ?_
  have hp := Hp.start (M := []) (w := w)
  (repeat (first | (with_reducible first | apply WP_seq | apply WP_region | apply wpl_nil | apply thenQ_n) | (apply wlp; (first | apply pv_move | apply pv_assign); exact fS rfl)))
  (apply wlp; exact pf_nilS rfl rfl rfl; exact fB rfl)
  (repeat (with_reducible first | apply wpl_nil | apply thenQ_n))
  refine WP_cond rfl (fun h => ?_) (fun h => ?_)
  · have hs0 : s = none := by
      cases s with
      | none => rfl
      | some a => simp at h
    have hl : l = [] := by
      cases l with
      | nil => rfl
      | cons x l' =>
        obtain ⟨b, o, e, _⟩ := hs 0 x rfl
        rw [hs0] at e
        cases e
    subst hl
    (repeat (first | (with_reducible first | apply WP_seq | apply WP_region | apply wpl_nil | apply thenQ_n | apply thenQ_ret | apply WP_ret) | (apply wlp; apply pv_assign; exact fS rfl)))
    exact ret_tmp rfl rfl ⟨_, rfl, none, 0, rfl, .nil, hp.nilL eI 3 1⟩
  · (repeat (with_reducible first | apply WP_seq | apply WP_region | apply thenQ_n | apply WP_skip))
    (apply wls; exact sf_slice hp rfl rfl rfl rfl rfl rfl rfl; rintro _ w1 ⟨nb, rfl, hp⟩)
    (repeat (apply wlp; apply pv_move; exact fS rfl))
    (apply wls; exact sf_clone eI l hp 0 rfl rfl rfl rfl rfl rfl (fun _ => rfl) rfl rfl rfl (hs.keep0 hp.keeps) (fun _ => rfl) hn; rintro _ w2 ⟨s', c', rfl, hv, hp⟩)
    (repeat (first | (with_reducible first | apply wpl_nil | apply thenQ_n | apply WP_ret) | (apply wlp; apply pv_assign; exact fS rfl)))
    exact ret_tmp rfl rfl ⟨_, rfl, s', c', rfl, hv, hp⟩

theorem c47 (l : List ByteArray) (s : Option Addr) (c : Nat) (w : World) (hn : l.length < 1000000) (hs : SlAt w 1 eS s l) :
    Ret Try.prog 47 [.slice s l.length c] w (fun v w' => ∃ s' c', v = .slice s' l.length c' ∧ SVL s' c' l ∧ Hp w [] w' [ownL eS 9 1 s' c' l]) := by
  refine Ret.of_WP Try.func47 rfl Try.ntmps47 rfl ?_
  have hp := Hp.start (M := []) (w := w)
  (repeat (first | (with_reducible first | apply WP_seq | apply WP_region | apply wpl_nil | apply thenQ_n) | (apply wlp; (first | apply pv_move | apply pv_assign); exact fS rfl)))
  (apply wlp; exact pf_nilS rfl rfl rfl; exact fB rfl)
  (repeat (with_reducible first | apply wpl_nil | apply thenQ_n))
  refine WP_cond rfl (fun h => ?_) (fun h => ?_)
  · have hs0 : s = none := by
      cases s with
      | none => rfl
      | some a => simp at h
    have hl : l = [] := by
      cases l with
      | nil => rfl
      | cons x l' =>
        obtain ⟨b, o, e, _⟩ := hs 0 x rfl
        rw [hs0] at e
        cases e
    subst hl
    (repeat (first | (with_reducible first | apply WP_seq | apply WP_region | apply wpl_nil | apply thenQ_n | apply thenQ_ret | apply WP_ret) | (apply wlp; apply pv_assign; exact fS rfl)))
    exact ret_tmp rfl rfl ⟨_, rfl, none, 0, rfl, .nil, hp.nilL eS 9 1⟩
  · (repeat (with_reducible first | apply WP_seq | apply WP_region | apply thenQ_n | apply WP_skip))
    (apply wls; exact sf_slice hp rfl rfl rfl rfl rfl rfl rfl; rintro _ w1 ⟨nb, rfl, hp⟩)
    (repeat (apply wlp; apply pv_move; exact fS rfl))
    (apply wls; exact sf_clone eS l hp 0 rfl rfl rfl rfl rfl rfl (fun _ => rfl) rfl rfl rfl (hs.keep0 hp.keeps) (fun _ => rfl) hn; rintro _ w2 ⟨s', c', rfl, hv, hp⟩)
    (repeat (first | (with_reducible first | apply wpl_nil | apply thenQ_n | apply WP_ret) | (apply wlp; apply pv_assign; exact fS rfl)))
    exact ret_tmp rfl rfl ⟨_, rfl, s', c', rfl, hv, hp⟩

theorem c48 (e : En) (a b : EnA) (w : World) (hl : EnLn e 1000000000) (ha : EnAt w e a) (hb : EnAt w e b) : Ret Try.prog 48 [enV e a, enV e b] w (fun v w' => v = .bool true ∧ Keeps [] w w') := by
  refine Ret.of_WP Try.func48 rfl Try.ntmps48 rfl ?_
  have hp := Hp.start (M := []) (w := w)
  ((repeat (with_reducible first | apply WP_seq | apply WP_region)); apply wls; exact sbox6 hp rfl; rintro _ w1 ⟨ab, rfl, hp⟩)
  (apply wls; exact sbox6 hp rfl; rintro _ w1 ⟨bb, rfl, hp⟩)
  (repeat fail)
  (apply wlp; apply pv_assign; exact fB rfl)
  (repeat (with_reducible first | apply WP_seq | apply WP_region | apply wpl_nil | apply thenQ_n))
  (apply wlp; (apply pf_field <;> exact rfl); exact fP rfl)
  (apply wlp; ((apply pf_load; exact rfl) <;> (first | exact rfl | exact hp.cell 1 rfl rfl)); exact fI rfl)
  (apply wlp; (apply pf_field <;> exact rfl); exact fP rfl)
  (apply wlp; ((apply pf_load; exact rfl) <;> (first | exact rfl | exact hp.cell 0 rfl rfl)); exact fI rfl)
  (apply wlp; exact pv_eql rfl rfl; exact bool_eq (b := true) (by simp))
  (apply wlp; apply pv_move; exact fB rfl)
  ((apply wlpT; exact rfl; exact rfl); ((apply pf_field <;> exact rfl)); (intros; exact fP rfl))
  ((apply wlpT; exact rfl; exact rfl); (((apply pf_load; exact rfl) <;> (first | exact rfl | exact hp.cell 1 rfl rfl))); (intros; exact fI rfl))
  ((apply wlpT; exact rfl; exact rfl); ((apply pf_field <;> exact rfl)); (intros; exact fP rfl))
  ((apply wlpT; exact rfl; exact rfl); (((apply pf_load; exact rfl) <;> (first | exact rfl | exact hp.cell 0 rfl rfl))); (intros; exact fI rfl))
  (apply wlpT; exact rfl; exact rfl; exact pv_eql rfl rfl; exact bool_eq (b := true) (by simp))
  (apply wlp; exact pv_and' rfl rfl; exact bool_eq (b := true) rfl)
  (apply wlp; apply pv_move; exact fB rfl)
  ((apply wlpT; exact rfl; exact rfl); ((apply pf_field <;> exact rfl)); (intros; exact fP rfl))
  ((apply wlpT; exact rfl; exact rfl); (((apply pf_load; exact rfl) <;> (first | exact rfl | exact hp.cell 1 rfl rfl))); (intros; exact fI rfl))
  ((apply wlpT; exact rfl; exact rfl); ((apply pf_field <;> exact rfl)); (intros; exact fP rfl))
  ((apply wlpT; exact rfl; exact rfl); (((apply pf_load; exact rfl) <;> (first | exact rfl | exact hp.cell 0 rfl rfl))); (intros; exact fI rfl))
  (apply wlpT; exact rfl; exact rfl; exact pv_eql rfl rfl; exact bool_eq (b := true) (by simp))
  (apply wlp; exact pv_and' rfl rfl; exact bool_eq (b := true) rfl)
  (apply wlp; apply pv_move; exact fB rfl)
  ((apply wlpT; exact rfl; exact rfl); ((apply pf_field <;> exact rfl)); (intros; exact fP rfl))
  ((apply wlpT; exact rfl; exact rfl); (((apply pf_load; exact rfl) <;> (first | exact rfl | exact hp.cell 1 rfl rfl))); (intros; exact fS rfl))
  ((apply wlpT; exact rfl; exact rfl); ((apply pf_field <;> exact rfl)); (intros; exact fP rfl))
  ((apply wlpT; exact rfl; exact rfl); (((apply pf_load; exact rfl) <;> (first | exact rfl | exact hp.cell 0 rfl rfl))); (intros; exact fS rfl))
  (apply wlsT; exact rfl; exact rfl; exact st_call rfl ent69 rfl (c69 e.picks a.sP b.sP a.cP b.cP _ (by have := hl.picks; omega) (ha.picks.keep0 hp.keeps) (hb.picks.keep0 hp.keeps)); rintro _ w ⟨rfl, hk⟩; have hp := hp.call hk)
  (apply wlp; exact pv_and' rfl rfl; exact bool_eq (b := true) rfl)
  (apply wlp; apply pv_move; exact fB rfl)
  ((apply wlpT; exact rfl; exact rfl); ((apply pf_field <;> exact rfl)); (intros; exact fP rfl))
  ((apply wlpT; exact rfl; exact rfl); (((apply pf_load; exact rfl) <;> (first | exact rfl | exact hp.cell 1 rfl rfl))); (intros; exact fS rfl))
  ((apply wlpT; exact rfl; exact rfl); ((apply pf_field <;> exact rfl)); (intros; exact fP rfl))
  ((apply wlpT; exact rfl; exact rfl); (((apply pf_load; exact rfl) <;> (first | exact rfl | exact hp.cell 0 rfl rfl))); (intros; exact fS rfl))
  (apply wlsT; exact rfl; exact rfl; exact st_call rfl ent70 rfl (c70 e.wishes a.sW b.sW a.cW b.cW _ (by have := hl.wishes; omega) (ha.wishes.keep0 hp.keeps) (hb.wishes.keep0 hp.keeps)); rintro _ w ⟨rfl, hk⟩; have hp := hp.call hk)
  (apply wlp; exact pv_and' rfl rfl; exact bool_eq (b := true) rfl)
  (apply wlp; apply pv_move; exact fB rfl)
  ((apply wlpT; exact rfl; exact rfl); ((apply pf_field <;> exact rfl)); (intros; exact fP rfl))
  ((apply wlpT; exact rfl; exact rfl); (((apply pf_load; exact rfl) <;> (first | exact rfl | exact hp.cell 1 rfl rfl))); (intros; exact fS rfl))
  ((apply wlpT; exact rfl; exact rfl); ((apply pf_field <;> exact rfl)); (intros; exact fP rfl))
  ((apply wlpT; exact rfl; exact rfl); (((apply pf_load; exact rfl) <;> (first | exact rfl | exact hp.cell 0 rfl rfl))); (intros; exact fS rfl))
  (apply wlsT; exact rfl; exact rfl; exact st_call rfl ent70 rfl (c70 e.groups a.sG b.sG a.cG b.cG _ (by have := hl.groups; omega) (ha.groups.keep0 hp.keeps) (hb.groups.keep0 hp.keeps)); rintro _ w ⟨rfl, hk⟩; have hp := hp.call hk)
  (apply wlp; exact pv_and' rfl rfl; exact bool_eq (b := true) rfl)
  (repeat (first | (with_reducible first | apply wpl_nil | apply thenQ_n | apply WP_ret) | (apply wlp; apply pv_assign; exact fB rfl)))
  exact ret_tmp rfl rfl ⟨_, rfl, rfl, hp.keeps⟩

theorem c23 (xs ys : List (En × EnA)) (s s2 : Option Addr) (c c2 : Nat) (w : World) (hn : xs.length ≤ 1000000000) (hm : xs.map (·.1) = ys.map (·.1)) (hs : SlAt w 6 eEn s xs) (hs2 : SlAt w 6 eEn s2 ys)
    (hx : ∀ x ∈ xs, EnAt w x.1 x.2) (hy : ∀ x ∈ ys, EnAt w x.1 x.2) (hl : ∀ x ∈ xs, EnLn x.1 1000000000) :
    Ret Try.prog 23 [.slice s xs.length c, .slice s2 ys.length c2] w (fun v w' => v = .bool true ∧ Keeps [] w w') := by
  have hlen : xs.length = ys.length := by
    have := congrArg List.length hm
    simpa using this
  refine Ret.of_WP Try.func23 rfl Try.ntmps23 rfl ?_
  have hp := Hp.start (M := []) (w := w)
  (repeat (first | (with_reducible first | apply WP_seq | apply WP_region | apply wpl_nil | apply thenQ_n) | (apply wlp; ((first | apply pv_move | apply pv_assign | (apply pf_len; exact rfl) | (apply pv_neq; (first | exact rfl | exact ev_sel rfl (by assumption)))) <;> exact rfl); (first | exact fI rfl | exact fB rfl | exact fS rfl))))
  refine WP_cond rfl (fun h => ?_) (fun h => ?_)
  · exfalso
    simp [hlen] at h
  (repeat (first | (with_reducible first | apply WP_seq | apply WP_block | apply WP_region | apply wpl_nil | apply thenQ_n | apply WP_skip) | (apply wlp; apply pv_assign; exact fI rfl)))
  refine WP_loopS [4, 5, 11, 12, 13, 14, 15, 16, 17, 18, 19, 20, 21, 22, 23, 24, 25, 26] (fun (i : Nat) F => F.put 5 (.int .i64 i)) (fun i w' => i ≤ xs.length ∧ Hp w [] w' []) (fun i => xs.length - i) 0 (put_self (Same.eq .refl) rfl) ⟨Nat.zero_le _, hp⟩ ?_
  clear hp
  rintro u i w1 ⟨hi, hp⟩
  (repeat (first | (with_reducible first | apply WP_seq | apply WP_region | apply wpl_nil | apply thenQ_n) | (apply wlp; ((first | apply pv_move | (apply pf_len; exact rfl) | apply pv_lss) <;> exact rfl); (first | exact fI rfl | exact fB rfl | exact fS rfl))))
  refine WP_cond_d rfl (fun h2 => ?_) (fun h2 => ?_)
  · have hlt : i < xs.length := by omega
    have hlt2 : i < ys.length := by omega
    obtain ⟨b0, o0, hs0, hc0⟩ := hs.base (by omega)
    have hci := hc0 i _ (List.getElem?_eq_getElem hlt)
    obtain ⟨b1, o1, hs1, hc1⟩ := hs2.base (by omega)
    have hcj := hc1 i _ (List.getElem?_eq_getElem hlt2)
    have hxm := hx _ (List.getElem_mem hlt)
    have hym := hy _ (List.getElem_mem hlt2)
    have hln := hl _ (List.getElem_mem hlt)
    have hxy : xs[i].1 = ys[i].1 := by
      have := congrArg (fun l => l[i]?) hm
      simpa [List.getElem?_map, hlt, hlt2] using this
    obtain ⟨x, hxe⟩ : ∃ x, x = xs[i] := ⟨_, rfl⟩
    obtain ⟨y, hye⟩ : ∃ y, y = ys[i] := ⟨_, rfl⟩
    rw [← hxe] at hci hxm hxy hln
    rw [← hye] at hcj hym hxy
    (repeat (with_reducible first | apply WP_seq | apply WP_block | apply thenQ_n | apply WP_skip))
    refine WP_draw mixed (by kernel_rfl) (fun w' => Hp _ _ w' _) hp.drew ?_
    have hp := hp.drew
    (repeat ((apply wdp; exact rfl); (intro w hp; intros; ((first | apply pv_move | (apply pf_loadb; exact rfl) | (apply pf_index; exact rfl)) <;> (first | exact rfl | assumption))); (intros; (first | exact fI rfl | exact fP rfl | exact fS rfl))))
    (apply wdp; exact rfl; (intro w hp; exact pf_loads rfl rfl rfl rfl (fun j v hv => hp.old0 (hci j v hv))); exact (rfl : _ = enV x.1 x.2))
    (repeat ((apply wdp; exact rfl); (intro w hp; intros; ((first | apply pv_move | (apply pf_loadb; exact rfl) | (apply pf_index; exact rfl)) <;> (first | exact rfl | assumption))); (intros; (first | exact fI rfl | exact fP rfl | exact fS rfl))))
    (apply wdp; exact rfl; (intro w hp; exact pf_loads rfl rfl rfl rfl (fun j v hv => hp.old0 (hcj j v hv))); exact ((rfl : _ = enV y.1 y.2).trans (congrArg (fun e => enV e y.2) hxy.symm)))
    (apply wds; exact rfl; exact st_call rfl ent48 rfl (c48 x.1 x.2 y.2 _ hln (hxm.keep hp.keeps) (by rw [hxy]; exact hym.keep hp.keeps)))
    rintro _ w2 ⟨rfl, hk⟩
    have hp := hp.call hk
    refine ⟨hp, ?_⟩
    (repeat ((apply wdp; exact rfl); (intro w hp; intros; (apply pv_not <;> exact rfl)); (intros; exact fB rfl)))
    refine wpd_nil ?_
    (repeat with_reducible apply thenQ_n)
    refine WP_cond rfl (fun h3 => ?_) (fun h3 => ?_)
    · exfalso
      simp at h3
    · (repeat (first | (with_reducible first | apply WP_region | apply thenQ_n | apply inBlk_n | apply WP_skip) | (apply wlp; apply pv_move; exact fI rfl)))
      (apply wlp; exact pv_add rfl rfl; exact int_eq (i64_in (by omega) (by omega)))
      (repeat (first | (with_reducible first | apply wpl_nil | apply thenQ_n) | (apply wlp; apply pv_assign; exact fI rfl)))
      exact ⟨i + 1, put_self (Same.eq (by repeat (first | exact Same.hav | exact Same.refl | refine Same.put rfl ?_ | refine Same.havs rfl ?_))) rfl, ⟨by omega, hp⟩, by omega⟩
  · (repeat (first | (with_reducible first | apply WP_seq | apply WP_region | apply wpl_nil | apply thenQ_n | apply thenQ_exit | apply WP_ret | apply WP_exit) | ((with_reducible apply inBlk_same); exact rfl) | (apply wlp; apply pv_assign; exact fB rfl)))
    exact ret_tmp rfl rfl ⟨_, rfl, rfl, hp.keeps⟩

theorem c24 (l : List (Int × Int)) (s s2 : Option Addr) (c c2 : Nat) (w : World) (hn : l.length ≤ 1000000000) (hs : SlAt w 2 eT s l) (hs2 : SlAt w 2 eT s2 l) :
    Ret Try.prog 24 [.slice s l.length c, .slice s2 l.length c2] w (fun v w' => v = .bool true ∧ Keeps [] w w') := by
  refine Ret.of_WP Try.func24 rfl Try.ntmps24 rfl ?_
  have hp := Hp.start (M := []) (w := w)
  (repeat (first | (with_reducible first | apply WP_seq | apply WP_region | apply wpl_nil | apply thenQ_n) | (apply wlp; ((first | apply pv_move | apply pv_assign | (apply pf_len; exact rfl) | (apply pv_neq; (first | exact rfl | exact ev_sel rfl (by assumption)))) <;> exact rfl); (first | exact fI rfl | exact fB rfl | exact fS rfl))))
  refine WP_cond rfl (fun h => ?_) (fun h => ?_)
  · exfalso
    simp at h
  (repeat (first | (with_reducible first | apply WP_seq | apply WP_block | apply WP_region | apply wpl_nil | apply thenQ_n | apply WP_skip) | (apply wlp; apply pv_assign; exact fI rfl)))
  refine WP_loopS [4, 5, 11, 12, 13, 14, 15, 16, 17, 18, 19, 20, 21, 22, 23, 24, 25] (fun (i : Nat) F => F.put 5 (.int .i64 i)) (fun i w' => i ≤ l.length ∧ Hp w [] w' []) (fun i => l.length - i) 0 (put_self (Same.eq .refl) rfl) ⟨Nat.zero_le _, hp⟩ ?_
  clear hp
  rintro u i w1 ⟨hi, hp⟩
  (repeat (first | (with_reducible first | apply WP_seq | apply WP_region | apply wpl_nil | apply thenQ_n) | (apply wlp; ((first | apply pv_move | (apply pf_len; exact rfl) | apply pv_lss) <;> exact rfl); (first | exact fI rfl | exact fB rfl | exact fS rfl))))
  refine WP_cond_d rfl (fun h2 => ?_) (fun h2 => ?_)
  · have hlt : i < l.length := by omega
    obtain ⟨b0, o0, hs0, hc0⟩ := hs.base (by omega)
    have hci := hc0 i _ (List.getElem?_eq_getElem hlt)
    obtain ⟨b1, o1, hs1, hc1⟩ := hs2.base (by omega)
    have hcj := hc1 i _ (List.getElem?_eq_getElem hlt)
    obtain ⟨x, hxe⟩ : ∃ x, x = l[i] := ⟨_, rfl⟩
    rw [← hxe] at hci hcj
    (repeat (with_reducible first | apply WP_seq | apply WP_block | apply thenQ_n | apply WP_skip))
    refine WP_draw mixed (by kernel_rfl) (fun w' => Hp _ _ w' _) hp.drew ?_
    have hp := hp.drew
    (repeat ((apply wdp; exact rfl); (intro w hp; intros; ((first | apply pv_move | (apply pf_loadb; exact rfl) | (apply pf_index; exact rfl)) <;> (first | exact rfl | assumption))); (intros; (first | exact fI rfl | exact fP rfl | exact fS rfl))))
    (apply wdp; exact rfl; (intro w hp; exact pf_loads rfl rfl rfl rfl (fun j v hv => hp.old0 (hci j v hv))); exact (rfl : _ = Value.agg #[.int .i64 x.1, .int .i64 x.2]))
    (repeat ((apply wdp; exact rfl); (intro w hp; intros; ((first | apply pv_move | (apply pf_loadb; exact rfl) | (apply pf_index; exact rfl)) <;> (first | exact rfl | assumption))); (intros; (first | exact fI rfl | exact fP rfl | exact fS rfl))))
    (apply wdp; exact rfl; (intro w hp; exact pf_loads rfl rfl rfl rfl (fun j v hv => hp.old0 (hcj j v hv))); exact (rfl : _ = Value.agg #[.int .i64 x.1, .int .i64 x.2]))
    (apply wdp; exact rfl; (intro w hp; exact pf_neq91 rfl rfl); exact fB rfl)
    refine wpd_nil ?_
    (repeat with_reducible apply thenQ_n)
    refine WP_cond_f rfl ?_
    (repeat (first | (with_reducible first | apply WP_region | apply thenQ_n | apply inBlk_n | apply WP_skip) | (apply wlp; apply pv_move; exact fI rfl)))
    (apply wlp; exact pv_add rfl rfl; exact int_eq (i64_in (by omega) (by omega)))
    (repeat (first | (with_reducible first | apply wpl_nil | apply thenQ_n) | (apply wlp; apply pv_assign; exact fI rfl)))
    exact ⟨i + 1, put_self (Same.eq (by repeat (first | exact Same.hav | exact Same.refl | refine Same.put rfl ?_ | refine Same.havs rfl ?_))) rfl, ⟨by omega, hp⟩, by omega⟩
  · (repeat (first | (with_reducible first | apply WP_seq | apply WP_region | apply wpl_nil | apply thenQ_n | apply thenQ_exit | apply WP_ret | apply WP_exit) | ((with_reducible apply inBlk_same); exact rfl) | (apply wlp; apply pv_assign; exact fB rfl)))
    exact ret_tmp rfl rfl ⟨_, rfl, rfl, hp.keeps⟩
end Go.Proofs.Ytgephdcapajaiaa
