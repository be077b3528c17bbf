/- Layer 14: words, ranges, the kind: what these functions return; no conditions. -/
import Derived.Test.YtgephdcapajaiaaTy
namespace Go.Proofs.Ytgephdcapajaiaa
open Go.Eng
attribute [local irreducible] PV StepF wpl wpd WP Ret

/-- a word -/
def okC (c : Int) : Bool := !(decide (c < 97) || decide (122 < c))
def isWordB (s : ByteArray) : Bool := decide (1 ≤ s.size) && decide (s.size ≤ 30) && (List.range s.size).all (fun i => okC (bAt s i))

def within (n lo hi : Int) : Int := if n < lo ∨ hi < n then 15 else 0

theorem c37 (n lo hi : Int) (w : World) : Ret Try.prog 37 [.int .i64 n, .int .i64 lo, .int .i64 hi] w (fun v w' => v = .int .i64 (within n lo hi) ∧ Keeps [] w w') := by
  refine Ret.of_WP Try.func37 rfl Try.ntmps37 rfl ?_
  have hp := Hp.start (M := []) (w := w)
  (repeat (first | (with_reducible first | apply WP_seq | apply WP_region | apply wpl_nil | apply thenQ_n) | ((first | apply wlp | (apply wlg; exact rfl; exact rfl)); (intros; ((first | apply pv_move | apply pv_assign | exact pv_or rfl rfl rfl | apply pv_lss | apply pv_gtr) <;> (first | exact rfl | exact ev_sel rfl (by assumption)))); (intros; (first | exact fI rfl | exact fB rfl)))))
  refine WP_cond rfl (fun h => ?_) (fun h => ?_)
  · (repeat (first | (with_reducible first | apply WP_seq | apply WP_region | apply wpl_nil | apply thenQ_n | apply thenQ_ret | apply WP_ret) | (apply wlp; exact pv_assign; exact rfl)))
    exact ret_tmp rfl rfl ⟨_, rfl, int_eq (by simp at h; simp [within, h]), hp.keeps⟩
  · (repeat (first | (with_reducible first | apply WP_seq | apply WP_region | apply wpl_nil | apply thenQ_n | apply WP_ret | apply WP_skip) | (apply wlp; exact pv_assign; exact rfl)))
    exact ret_tmp rfl rfl ⟨_, rfl, int_eq (by simp at h; simp [within]; omega), hp.keeps⟩

theorem all_range {p : Nat → Bool} {n : Nat} (h : ∀ j, j < n → p j = true) : (List.range n).all p = true := by
  rw [List.all_eq_true]
  intro j hj
  exact h j (by simpa using hj)
theorem not_range {p : Nat → Bool} {n j : Nat} (hj : j < n) (h : p j = false) : (List.range n).all p = false := by
  rw [List.all_eq_false]
  exact ⟨j, by simpa using hj, by simp [h]⟩
theorem below_succ {p : Nat → Bool} {i : Nat} (h : ∀ j, j < i → p j = true) (h2 : p i = true) : ∀ j, j < i + 1 → p j = true := by
  intro j hlt
  by_cases e : j = i
  · subst e; exact h2
  · exact h j (by omega)

theorem c68 (s : ByteArray) (w : World) : Ret Try.prog 68 [.string s] w (fun v w' => v = .bool (isWordB s) ∧ Keeps [] w w') := by
  refine Ret.of_WP Try.func68 rfl Try.ntmps68 rfl ?_
  have hp := Hp.start (M := []) (w := w)
  (repeat (first | (with_reducible first | apply WP_seq | apply WP_region | apply wpl_nil | apply thenQ_n) | ((first | apply wlp | (apply wlg; exact rfl; exact rfl)); (intros; ((first | apply pv_move | apply pv_assign | (apply pf_lens; exact rfl) | exact pv_or rfl rfl rfl | apply pv_lss | apply pv_gtr) <;> (first | exact rfl | exact ev_sel rfl (by assumption)))); (intros; (first | exact fI rfl | exact fB rfl | exact fT rfl)))))
  refine WP_cond rfl (fun h => ?_) (fun h => ?_)
  · (repeat (first | (with_reducible first | apply WP_seq | apply WP_region | apply wpl_nil | apply thenQ_n | apply thenQ_ret | apply WP_ret) | (apply wlp; exact pv_assign; exact rfl)))
    refine ret_tmp rfl rfl ⟨_, rfl, bool_eq ?_, hp.keeps⟩
    simp at h
    unfold isWordB
    rcases h with h | h
    · have : ¬ 1 ≤ s.size := by omega
      simp [this]
    · have : ¬ s.size ≤ 30 := by omega
      simp [this]
  · simp at h
    obtain ⟨h1, h2⟩ := h
    (repeat (first | (with_reducible first | apply WP_seq | apply WP_block | apply WP_region | apply wpl_nil | apply thenQ_n | apply WP_skip) | (apply wlp; ((first | apply pv_move | (apply pf_lens; exact rfl)) <;> exact rfl); (first | exact fI rfl | exact fT rfl))))
    refine WP_loopS [2, 3, 14, 15, 16, 17, 18, 19, 20, 21, 22, 23, 24, 25, 26, 27] (fun (i : Nat) F => F.put 14 (.int .i64 i)) (fun i w' => i ≤ s.size ∧ Hp w [] w' [] ∧ ∀ j, j < i → okC (bAt s j) = true) (fun i => s.size - i) 0 (put_self (Same.eq .refl) rfl) ⟨Nat.zero_le _, hp, by simp⟩ ?_
    clear hp
    rintro u i w ⟨hi, hp, hall⟩
    (repeat (first | (with_reducible first | apply WP_seq | apply WP_region | apply wpl_nil | apply thenQ_n) | (apply wlp; (apply pv_lss <;> exact rfl); exact fB rfl)))
    refine WP_cond_d rfl (fun h => ?_) (fun h => ?_)
    · have hlt : i < s.size := by omega
      (repeat (first | (with_reducible first | apply WP_seq | apply WP_block | apply WP_region | apply wpl_nil | apply thenQ_n | apply WP_skip) | ((first | apply wlp | (apply wlg; exact rfl; exact rfl)); (intros; ((first | apply pv_move | apply pv_assign | exact pv_or rfl rfl rfl | apply pv_lss | apply pv_gtr | apply pf_index_s) <;> (first | exact rfl | exact ev_sel rfl (by assumption) | assumption))); (intros; (first | exact fI rfl | exact fB rfl | exact fT rfl)))))
      refine WP_cond rfl (fun h => ?_) (fun h => ?_)
      · (repeat (first | (with_reducible first | apply WP_seq | apply WP_region | apply wpl_nil | apply thenQ_n | apply thenQ_ret | apply inBlk_ret | apply WP_ret) | (apply wlp; exact pv_assign; exact rfl)))
        refine ret_tmp rfl rfl ⟨_, rfl, bool_eq ?_, hp.keeps⟩
        unfold isWordB
        rw [not_range hlt (by unfold okC; rw [h]; rfl)]
        simp
      · (repeat (with_reducible first | apply WP_region | apply thenQ_n | apply inBlk_n | apply WP_skip))
        (apply wlp; exact pv_add rfl rfl; exact int_eq (i64_in (by omega) (by omega)))
        (repeat (first | (with_reducible first | apply wpl_nil | apply thenQ_n) | (apply wlp; apply pv_move; exact fI rfl)))
        exact ⟨i + 1, put_self (Same.eq (by repeat (first | exact Same.hav | exact Same.refl | refine Same.put rfl ?_ | refine Same.havs rfl ?_))) rfl, ⟨by omega, hp, below_succ hall (by unfold okC; rw [h]; rfl)⟩, by omega⟩
    · (repeat (first | (with_reducible first | apply WP_seq | apply WP_region | apply wpl_nil | apply thenQ_n | apply thenQ_exit | apply WP_ret | apply WP_exit) | ((with_reducible apply inBlk_same); exact rfl) | (apply wlp; exact pv_assign; exact rfl)))
      refine ret_tmp rfl rfl ⟨_, rfl, bool_eq ?_, hp.keeps⟩
      have : i = s.size := by omega
      subst this
      unfold isWordB
      rw [all_range hall]
      simp
      omega
end Go.Proofs.Ytgephdcapajaiaa
