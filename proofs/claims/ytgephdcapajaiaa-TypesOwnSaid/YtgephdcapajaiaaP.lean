/- Layer 14: numbers that are read one after the other, and words; conditions are the hypotheses of each law. -/
import Derived.Test.YtgephdcapajaiaaM
namespace Go.Proofs.Ytgephdcapajaiaa
open Go.Eng

attribute [local irreducible] PV StepF wpl wpd WP Ret

/-- the reader of numbers has read j of them -/
def strm (s : Option Addr) (c : Nat) (l : List Int) (j : Nat) : List Value := [.slice s l.length c, .int .i64 (min j l.length : Nat)]
def nx (l : List Int) (j : Nat) (n : Int) : Int := (l.getD j 0) % n

theorem c28 (l : List Int) (s : Option Addr) (c j mb : Nat) (n : Int) (w : World) (hs : SlAt w 1 eI s l) (hsb : l ≠ [] → ∀ b o, s = some ⟨b, o, none⟩ → b ≠ mb) (hl : l.length ≤ maxLen) (hn : 0 < n) (hn2 : n ≤ 9223372036854775807)
    (ho : ∃ o, w.heap[mb]? = some o ∧ cellsB 2 (frOf (strm s c l j)) 72 o) :
    Ret Try.prog 28 [.pointer (some ⟨mb, 0, none⟩), .int .i64 n] w (fun v w' => v = .int .i64 (nx l j n) ∧ Keeps [mb] w w' ∧ ∃ o, w'.heap[mb]? = some o ∧ cellsB 2 (frOf (strm s c l (j + 1))) 72 o) := by
  have hlm : l.length ≤ 9223372036854775807 := by unfold maxLen at hl; omega
  refine Ret.of_WP Try.func28 rfl Try.ntmps28 rfl ?_
  obtain ⟨o, ho, hc⟩ := ho
  have hp : Hp w [mb] w [blk mb 2 (frOf [.slice s l.length c, .int .i64 (min j l.length : Nat)]) 72] := Hp.start.adopt (by simp) ho hc (by simp)
  (repeat (first | (with_reducible first | apply WP_seq | apply WP_region | apply wpl_nil | apply thenQ_n) | (apply wlp; apply pv_assign; exact fI rfl)))
  refine WP_draw mixed (by kernel_rfl) (fun w' => Hp _ _ w' _) hp.drew ?_
  have hp := hp.drew
  (repeat ((apply wdp; exact rfl); (intro w hp; intros; ((first | apply pv_move | apply pf_field | (apply pf_load; exact rfl) | (apply pf_len; exact rfl) | apply pv_geq | apply pv_nil) <;> (first | exact rfl | exact hp.cell 0 rfl rfl))); (intros; (first | exact fI rfl | exact fB rfl | exact fP rfl | exact fS rfl))))
  refine wpd_nil ?_
  (repeat with_reducible apply thenQ_n)
  refine WP_cond_d rfl (fun h => ?_) (fun h => ?_)
  · have hj : l.length ≤ j := by omega
    (repeat (first | (with_reducible first | apply WP_seq | apply WP_region | apply wpl_nil | apply thenQ_n | apply thenQ_ret | apply WP_ret) | (apply wlp; apply pv_assign; exact fI rfl)))
    refine ret_tmp rfl rfl ⟨_, rfl, int_eq ?_, hp.keeps, ?_⟩
    · unfold nx
      rw [List.getD_eq_getElem?_getD, List.getElem?_eq_none hj]
      simp
    · obtain ⟨o, ho, hc⟩ := hp.has 0 _ rfl mb rfl
      refine ⟨o, ho, ?_⟩
      unfold strm
      rw [show min (j + 1) l.length = min j l.length from by omega]
      exact hc
  · have hj : j < l.length := by omega
    have hm : min j l.length = j := by omega
    have hne : l ≠ [] := by rintro rfl; simp at hj
    obtain ⟨b0, o0, hs0, hc0⟩ := hs.base (by omega)
    have hc1 := hc0 j _ (List.getElem?_eq_getElem hj) 0 _ rfl
    have hb0 := hsb hne b0 o0 hs0
    (repeat (first | (with_reducible first | apply WP_seq | apply WP_region | apply thenQ_n | apply WP_skip) | (apply wlp; ((first | apply pv_move | apply pf_field | (apply pf_load; exact rfl) | apply pv_nil) <;> (first | exact rfl | exact hp.cell 0 rfl rfl)); (first | exact fI rfl | exact fP rfl))))
    (apply wlp; exact pv_add rfl rfl; exact int_eq (b := (min (j + 1) l.length : Nat)) (by rw [i64_in (by omega) (by omega)]; omega))
    (repeat (apply wlp; ((first | apply pf_field | apply pv_nil) <;> exact rfl); exact fP rfl))
    (apply wls0; exact sstore1 hp 0 rfl rfl rfl rfl (sizeTy_ok rfl) rfl; rintro _ w2 ⟨rfl, hp⟩)
    have hp := Hp.norm hp 0 (strm s c l (j + 1)) rfl rfl
    have hp : Hp w [mb] w2 [blk mb 2 (frOf [.slice s l.length c, .int .i64 (min (j + 1) l.length : Nat)]) 72] := hp
    have hc2 := hp.old hc1 (by simp [hb0])
    (repeat (with_reducible first | apply WP_seq | apply wpl_nil | apply thenQ_n))
    refine WP_draw mixed (by kernel_rfl) (fun w' => Hp _ _ w' _) hp.drew ?_
    have hp := hp.drew
    (repeat ((apply wdp; exact rfl); (intro w hp; intros; ((first | apply pv_move | apply pf_field | (apply pf_load; exact rfl) | apply pv_nil) <;> (first | exact rfl | exact hp.cell 0 rfl rfl))); (intros; (first | exact fI rfl | exact fP rfl | exact fS rfl))))
    (apply wdp; exact rfl; (intro w hp; exact pv_sub rfl rfl); exact int_eq (b := (j : Nat)) (by rw [i64_in (by omega) (by omega)]; omega))
    (apply wdp; exact rfl; (intro w hp; exact pf_index rfl rfl rfl hs0 hj); exact fP rfl)
    (apply wdp; exact rfl; (intro w hp; exact pf_load rfl rfl (hp.old hc1 (by simp [hb0]))); exact fI rfl)
    (repeat ((apply wdp; exact rfl); (intro w hp; intros; apply pv_move); (intros; exact fI rfl)))
    (apply wds; exact rfl; exact st_call rfl ent20 rfl (c20 _ _ _ hn hn2))
    rintro _ w3 ⟨rfl, hk⟩
    have hp := hp.call hk
    refine ⟨hp, ?_⟩
    (repeat ((apply wdp; exact rfl); (intro w hp; intros; apply pv_assign); (intros; exact fI rfl)))
    refine wpd_nil ?_
    (repeat (with_reducible first | apply thenQ_n | apply WP_ret))
    refine ret_tmp rfl rfl ⟨_, rfl, int_eq ?_, hp.keeps, ?_⟩
    · unfold nx
      rw [List.getD_eq_getElem?_getD, List.getElem?_eq_getElem hj]
      rfl
    · exact hp.has 0 _ rfl mb rfl

def wordB (n : Int) : ByteArray := match (n % 6).toNat with
  | 0 => ⟨#[97]⟩
  | 1 => ⟨#[98]⟩
  | 2 => ⟨#[99]⟩
  | 3 => ⟨#[100]⟩
  | 4 => ⟨#[101]⟩
  | _ => ⟨#[102]⟩

theorem c27 (n : Int) (w : World) : Ret Try.prog 27 [.int .i64 n] w (fun v w' => v = .string (wordB n) ∧ Keeps [] w w') := by
  refine Ret.of_WP Try.func27 rfl Try.ntmps27 rfl ?_
  have hp := Hp.start (M := []) (w := w)
  (repeat (first | (with_reducible first | apply WP_seq | apply WP_region | apply wpl_nil | apply thenQ_n) | (apply wlp; apply pv_assign; exact fT rfl)))
  (apply wls; exact sf_slice hp rfl rfl rfl rfl rfl rfl rfl; rintro _ w1 ⟨b, rfl, hp⟩)
  (repeat (apply wlp; apply pv_move; exact fI rfl))
  (apply wls; exact st_call rfl ent20 rfl (c20 _ _ _ (by decide) (by decide)))
  rintro _ w2 ⟨rfl, hk⟩
  have hp := hp.call hk
  obtain ⟨k, hk2, hk6⟩ : ∃ k : Nat, n % 6 = k ∧ k < 6 := ⟨(n % 6).toNat, by omega, by omega⟩
  have hwd : wordB n = wordB (k : Int) := by
    unfold wordB
    rw [show (k : Int) % 6 = n % 6 from by omega]
  rw [hwd, hk2]
  (apply wlp; exact pf_index rfl rfl rfl rfl hk6; exact fP rfl)
  match k, hk6 with
  | 0, _ | 1, _ | 2, _ | 3, _ | 4, _ | 5, _ =>
    (repeat (first | (with_reducible first | apply wpl_nil | apply thenQ_n | apply WP_ret) | (apply wlp; ((first | apply pv_assign | (apply pf_load; exact rfl)) <;> (first | exact rfl | exact hp.cell 0 rfl rfl)); exact fT rfl)))
    exact ret_tmp rfl rfl ⟨_, rfl, rfl, hp.keeps⟩
end Go.Proofs.Ytgephdcapajaiaa
