/- Layer 14: the reference's small functions; conditions: the lists lie in memory. -/
import Derived.Test.YtgephdcapajaiaaF
namespace Go.Proofs.Ytgephdcapajaiaa
open Go.Eng
attribute [local irreducible] PV StepF wpl wpd WP Ret

theorem c30 (s : ByteArray) (w : World) (hs : s.size ≤ 9223372036854775807) : Ret Try.prog 30 [.string s] w (fun v w' => v = .bool (isWordB s) ∧ Keeps [] w w') := by
  refine Ret.of_WP Try.func30 rfl Try.ntmps30 rfl ?_
  have hp := Hp.start (M := []) (w := w)
  (repeat (first | (with_reducible first | apply WP_seq | apply WP_block | apply WP_region | apply wpl_nil | apply thenQ_n) | (apply wlp; apply pv_assign; (first | exact fI rfl | exact fB rfl))))
  refine WP_loopS [2, 3, 4, 5, 6, 7, 8, 9, 10, 11, 12, 13, 14, 15, 16, 17, 18, 19] (fun (i : Nat) F => F.put 3 (.int .i64 i)) (fun i w' => i ≤ s.size ∧ Hp w [] w' [] ∧ ∀ j, j < i → okC (bAt s j) = true) (fun i => s.size - i) 0 (put_self (Same.eq .refl) rfl) ⟨Nat.zero_le _, hp, by simp⟩ ?_
  clear hp
  rintro u i w ⟨hi, hp, hall⟩
  (repeat (first | (with_reducible first | apply WP_seq | apply WP_region | apply wpl_nil | apply thenQ_n) | (apply wlp; ((first | apply pv_move | (apply pf_lens; exact rfl) | apply pv_lss) <;> exact rfl); (first | exact fI rfl | exact fB rfl | exact fT rfl))))
  refine WP_cond_d rfl (fun h => ?_) (fun h => ?_)
  · have hlt : i < s.size := by omega
    (repeat (first | (with_reducible first | apply WP_seq | apply WP_block | apply WP_region | apply wpl_nil | apply thenQ_n | apply WP_skip) | ((first | apply wlp | (apply wlg; exact rfl; exact rfl)); (intros; ((first | apply pv_move | exact pv_or rfl rfl rfl | apply pv_lss | apply pv_gtr | apply pf_index_s) <;> (first | exact rfl | exact ev_sel rfl (by assumption) | assumption))); (intros; (first | exact fI rfl | exact fB rfl | exact fT rfl)))))
    refine WP_cond rfl (fun h => ?_) (fun h => ?_)
    · (repeat (first | (with_reducible first | apply WP_seq | apply WP_region | apply wpl_nil | apply thenQ_n | apply thenQ_ret | apply inBlk_ret | apply WP_ret) | (apply wlp; exact pv_assign; exact rfl)))
      refine ret_tmp rfl rfl ⟨_, rfl, bool_eq ?_, hp.keeps⟩
      unfold isWordB
      rw [not_range hlt (by unfold okC; rw [h]; rfl)]
      simp
    · (repeat (first | (with_reducible first | apply WP_region | apply thenQ_n | apply inBlk_n | apply WP_skip) | (apply wlp; apply pv_move; exact fI rfl)))
      (apply wlp; exact pv_add rfl rfl; exact int_eq (i64_in (by omega) (by omega)))
      (repeat (first | (with_reducible first | apply wpl_nil | apply thenQ_n) | (apply wlp; apply pv_assign; exact fI rfl)))
      exact ⟨i + 1, put_self (Same.eq (by repeat (first | exact Same.hav | exact Same.refl | refine Same.put rfl ?_ | refine Same.havs rfl ?_))) rfl, ⟨by omega, hp, below_succ hall (by unfold okC; rw [h]; rfl)⟩, by omega⟩
  · have e : i = s.size := by omega
    subst e
    (repeat (first | (with_reducible first | apply WP_seq | apply WP_region | apply wpl_nil | apply thenQ_n | apply thenQ_exit | apply WP_ret | apply WP_exit) | ((with_reducible apply inBlk_same); exact rfl) | ((first | apply wlp | (apply wlg; exact rfl; exact rfl)); (intros; ((first | apply pv_move | apply pv_assign | (apply pf_lens; exact rfl) | exact pv_and rfl rfl rfl | apply pv_leq | apply pv_geq) <;> (first | exact rfl | exact ev_sel rfl (by assumption)))); (intros; (first | exact fI rfl | exact fB rfl | exact fT rfl)))))
    refine ret_tmp rfl rfl ⟨_, rfl, bool_eq ?_, hp.keeps⟩
    unfold isWordB
    rw [all_range hall]
    rw [Bool.eq_iff_iff]
    simp
    omega

def withinB (n lo hi : Int) : Bool := decide (lo ≤ n) && decide (n ≤ hi)
theorem c31 (n lo hi : Int) (w : World) : Ret Try.prog 31 [.int .i64 n, .int .i64 lo, .int .i64 hi] w (fun v w' => v = .bool (withinB n lo hi) ∧ Keeps [] w w') := by
  refine Ret.of_WP Try.func31 rfl Try.ntmps31 rfl ?_
  have hp := Hp.start (M := []) (w := w)
  (repeat (first | (with_reducible first | apply WP_seq | apply WP_region | apply wpl_nil | apply thenQ_n | apply WP_ret) | ((first | apply wlp | (apply wlg; exact rfl; exact rfl)); (intros; ((first | apply pv_move | apply pv_assign | exact pv_and rfl rfl rfl | apply pv_leq | apply pv_geq) <;> (first | exact rfl | exact ev_sel rfl (by assumption)))); (intros; (first | exact fI rfl | exact fB rfl)))))
  exact ret_tmp rfl rfl ⟨_, rfl, rfl, hp.keeps⟩

theorem same_in {κ : Type} [DecidableEq κ] {l : List κ} {i k : Nat} (hi : i < l.length) (hk : k < i) (e : l[k]'(by omega) = l[i]) : nodupB l = false := by
  unfold nodupB
  rw [decide_eq_false_iff_not]
  intro h
  rw [List.nodup_iff_pairwise_ne, List.pairwise_iff_getElem] at h
  exact h k i (by omega) hi hk e
theorem same_out {κ : Type} [DecidableEq κ] {l : List κ} (h : ∀ j, j < l.length → pN l j = true) : nodupB l = true := by
  rw [← pN_all]
  exact all_range h
theorem pN_of {κ : Type} [DecidableEq κ] {l : List κ} {i : Nat} (hi : i < l.length) (h : ∀ j (hj : j < i), l[j]'(by omega) ≠ l[i]) : pN l i = true := by
  rw [pN_at (List.getElem?_eq_getElem hi)]
  simp only [memD, Bool.not_eq_true', decide_eq_false_iff_not]
  intro hm
  rw [List.mem_take_iff_getElem] at hm
  obtain ⟨j, hj, e⟩ := hm
  exact h j (by omega) e


theorem c33 (s : Option Addr) (c : Nat) (l : List Int) (w : World) (hn : l.length ≤ 9223372036854775807) (hs : SlAt w 1 eI s l) : Ret Try.prog 33 [.slice s l.length c] w (fun v w' => v = .bool (!nodupB l) ∧ Keeps [] w w') := by
  refine Ret.of_WP Try.func33 rfl Try.ntmps33 rfl ?_
  have hp := Hp.start (M := []) (w := w)
  (repeat (first | (with_reducible first | apply WP_seq | apply WP_block | apply WP_region | apply wpl_nil | apply thenQ_n) | (apply wlp; apply pv_assign; (first | exact fI rfl | exact fB rfl))))
  refine WP_loopS [2, 3, 4, 5, 6, 7, 8, 9, 10, 11, 12, 13, 14, 15, 16, 17, 18, 19, 20, 21, 22, 23, 24] (fun (i : Nat) F => F.put 3 (.int .i64 i)) (fun i w' => i ≤ l.length ∧ Hp w [] w' [] ∧ ∀ j, j < i → pN l j = true) (fun i => l.length - i) 0 (put_self (Same.eq .refl) rfl) ⟨Nat.zero_le _, hp, by simp⟩ ?_
  clear hp
  rintro u i w1 ⟨hi, hp, hall⟩
  (repeat (first | (with_reducible first | apply WP_seq | apply WP_region | apply wpl_nil | apply thenQ_n) | (apply wlp; ((first | apply pv_move | (apply pf_len; exact rfl) | apply pv_lss) <;> exact rfl); (first | exact fI rfl | exact fB rfl | exact fS rfl))))
  refine WP_cond_d rfl (fun h => ?_) (fun h => ?_)
  · have hlt : i < l.length := by omega
    obtain ⟨b0, o0, hs0, hc0⟩ := hs.base (by omega)
    have hci := hc0 i _ (List.getElem?_eq_getElem hlt) 0 _ rfl
    (repeat (first | (with_reducible first | apply WP_seq | apply WP_block | apply WP_region | apply wpl_nil | apply thenQ_n | apply WP_skip) | (apply wlp; apply pv_assign; exact fI rfl)))
    refine WP_loopS [2, 4, 11, 12, 13, 14, 15, 16, 17, 18, 19, 20, 21, 22, 23, 24] (fun (k : Nat) F => F.put 4 (.int .i64 k)) (fun k w' => k ≤ i ∧ Hp w [] w' [] ∧ ∀ j (hj : j < k) (hji : j < i), l[j]'(by omega) ≠ l[i]) (fun k => i - k) 0 (put_self (Same.eq .refl) rfl) ⟨Nat.zero_le _, hp, by simp⟩ ?_
    clear hp
    rintro u2 k w2 ⟨hki, hp, hne⟩
    (repeat (first | (with_reducible first | apply WP_seq | apply WP_region | apply wpl_nil | apply thenQ_n) | (apply wlp; ((first | apply pv_move | apply pv_lss) <;> exact rfl); (first | exact fI rfl | exact fB rfl))))
    refine WP_cond_d rfl (fun h2 => ?_) (fun h2 => ?_)
    · have hk : k < i := by omega
      have hkl : k < l.length := by omega
      have hck := hc0 k _ (List.getElem?_eq_getElem hkl) 0 _ rfl
      (repeat (with_reducible first | apply WP_seq | apply WP_block | apply thenQ_n | apply WP_skip))
      refine WP_draw mixed (by kernel_rfl) (fun w' => Hp _ _ w' _) hp.drew ?_
      (repeat ((apply wdp; exact rfl); (intro w hp; intros; ((first | apply pv_move | (apply pf_load; exact rfl) | (apply pv_eql; (first | exact rfl | exact ev_sel rfl (by assumption))) | (apply pf_index; exact rfl)) <;> (first | exact rfl | assumption | exact hp.old0 (by assumption)))); (intros; (first | exact fI rfl | exact fB rfl | exact fP rfl | exact fS rfl))))
      refine wpd_nil ?_
      have hp := hp.drew
      (repeat with_reducible apply thenQ_n)
      refine WP_cond_d rfl (fun h3 => ?_) (fun h3 => ?_)
      · (repeat (first | (with_reducible first | apply WP_seq | apply WP_region | apply wpl_nil | apply thenQ_n | apply thenQ_ret | apply inBlk_ret | apply WP_ret) | (apply wlp; exact pv_assign; exact rfl)))
        exact ret_tmp rfl rfl ⟨_, rfl, bool_eq (by rw [same_in hlt hk h3]; rfl), hp.keeps⟩
      · (repeat (first | (with_reducible first | apply WP_region | apply thenQ_n | apply inBlk_n | apply WP_skip) | (apply wlp; apply pv_move; exact fI rfl)))
        (apply wlp; exact pv_add rfl rfl; exact int_eq (i64_in (by omega) (by omega)))
        (repeat (first | (with_reducible first | apply wpl_nil | apply thenQ_n) | (apply wlp; apply pv_assign; exact fI rfl)))
        exact ⟨k + 1, put_self (Same.eq (by repeat (first | exact Same.hav | exact Same.refl | refine Same.put rfl ?_ | refine Same.havs rfl ?_))) rfl, ⟨by omega, hp, fun j hj hji => by
          by_cases e : j = k
          · subst e; exact h3
          · exact hne j (by omega) hji⟩, by omega⟩
    · have e : k = i := by omega
      subst e
      (repeat (first | (with_reducible first | apply WP_region | apply thenQ_n | apply inBlk_n | apply thenQ_exit | apply WP_exit) | ((with_reducible apply inBlk_same); exact rfl) | (apply wlp; apply pv_move; exact fI rfl)))
      (apply wlp; exact pv_add rfl rfl; exact int_eq (i64_in (by omega) (by omega)))
      (repeat (first | (with_reducible first | apply wpl_nil | apply thenQ_n) | (apply wlp; apply pv_assign; exact fI rfl)))
      exact ⟨k + 1, put_self (Same.eq (by repeat (first | exact Same.hav | exact Same.refl | refine Same.put rfl ?_ | refine Same.havs rfl ?_))) rfl, ⟨by omega, hp, below_succ hall (pN_of hlt (fun j hj => hne j hj hj))⟩, by omega⟩
  · have e : i = l.length := by omega
    subst e
    (repeat (first | (with_reducible first | apply WP_seq | apply WP_region | apply wpl_nil | apply thenQ_n | apply thenQ_exit | apply WP_ret | apply WP_exit) | ((with_reducible apply inBlk_same); exact rfl) | (apply wlp; exact pv_assign; exact rfl)))
    exact ret_tmp rfl rfl ⟨_, rfl, bool_eq (by rw [same_out hall]; rfl), hp.keeps⟩


theorem c44 (s : Option Addr) (c : Nat) (l : List ByteArray) (w : World) (hn : l.length ≤ 9223372036854775807) (hs : SlAt w 1 eS s l) : Ret Try.prog 44 [.slice s l.length c] w (fun v w' => v = .bool (!nodupB l) ∧ Keeps [] w w') := by
  refine Ret.of_WP Try.func44 rfl Try.ntmps44 rfl ?_
  have hp := Hp.start (M := []) (w := w)
  (repeat (first | (with_reducible first | apply WP_seq | apply WP_block | apply WP_region | apply wpl_nil | apply thenQ_n) | (apply wlp; apply pv_assign; (first | exact fI rfl | exact fB rfl))))
  refine WP_loopS [2, 3, 4, 5, 6, 7, 8, 9, 10, 11, 12, 13, 14, 15, 16, 17, 18, 19, 20, 21, 22, 23, 24] (fun (i : Nat) F => F.put 3 (.int .i64 i)) (fun i w' => i ≤ l.length ∧ Hp w [] w' [] ∧ ∀ j, j < i → pN l j = true) (fun i => l.length - i) 0 (put_self (Same.eq .refl) rfl) ⟨Nat.zero_le _, hp, by simp⟩ ?_
  clear hp
  rintro u i w1 ⟨hi, hp, hall⟩
  (repeat (first | (with_reducible first | apply WP_seq | apply WP_region | apply wpl_nil | apply thenQ_n) | (apply wlp; ((first | apply pv_move | (apply pf_len; exact rfl) | apply pv_lss) <;> exact rfl); (first | exact fI rfl | exact fB rfl | exact fS rfl))))
  refine WP_cond_d rfl (fun h => ?_) (fun h => ?_)
  · have hlt : i < l.length := by omega
    obtain ⟨b0, o0, hs0, hc0⟩ := hs.base (by omega)
    have hci := hc0 i _ (List.getElem?_eq_getElem hlt) 0 _ rfl
    (repeat (first | (with_reducible first | apply WP_seq | apply WP_block | apply WP_region | apply wpl_nil | apply thenQ_n | apply WP_skip) | (apply wlp; apply pv_assign; exact fI rfl)))
    refine WP_loopS [2, 4, 11, 12, 13, 14, 15, 16, 17, 18, 19, 20, 21, 22, 23, 24] (fun (k : Nat) F => F.put 4 (.int .i64 k)) (fun k w' => k ≤ i ∧ Hp w [] w' [] ∧ ∀ j (hj : j < k) (hji : j < i), l[j]'(by omega) ≠ l[i]) (fun k => i - k) 0 (put_self (Same.eq .refl) rfl) ⟨Nat.zero_le _, hp, by simp⟩ ?_
    clear hp
    rintro u2 k w2 ⟨hki, hp, hne⟩
    (repeat (first | (with_reducible first | apply WP_seq | apply WP_region | apply wpl_nil | apply thenQ_n) | (apply wlp; ((first | apply pv_move | apply pv_lss) <;> exact rfl); (first | exact fI rfl | exact fB rfl))))
    refine WP_cond_d rfl (fun h2 => ?_) (fun h2 => ?_)
    · have hk : k < i := by omega
      have hkl : k < l.length := by omega
      have hck := hc0 k _ (List.getElem?_eq_getElem hkl) 0 _ rfl
      (repeat (with_reducible first | apply WP_seq | apply WP_block | apply thenQ_n | apply WP_skip))
      refine WP_draw mixed (by kernel_rfl) (fun w' => Hp _ _ w' _) hp.drew ?_
      (repeat ((apply wdp; exact rfl); (intro w hp; intros; ((first | apply pv_move | (apply pf_load; exact rfl) | (apply pf_index; exact rfl) | (apply pv_seql; (first | exact rfl | exact ev_sel rfl (by assumption)))) <;> (first | exact rfl | assumption | exact hp.old0 (by assumption)))); (intros; (first | exact fI rfl | exact fB rfl | exact fP rfl | exact fS rfl | exact fT rfl))))
      refine wpd_nil ?_
      have hp := hp.drew
      (repeat with_reducible apply thenQ_n)
      refine WP_cond_d rfl (fun h3 => ?_) (fun h3 => ?_)
      · (repeat (first | (with_reducible first | apply WP_seq | apply WP_region | apply wpl_nil | apply thenQ_n | apply thenQ_ret | apply inBlk_ret | apply WP_ret) | (apply wlp; exact pv_assign; exact rfl)))
        exact ret_tmp rfl rfl ⟨_, rfl, bool_eq (by rw [same_in hlt hk h3]; rfl), hp.keeps⟩
      · (repeat (first | (with_reducible first | apply WP_region | apply thenQ_n | apply inBlk_n | apply WP_skip) | (apply wlp; apply pv_move; exact fI rfl)))
        (apply wlp; exact pv_add rfl rfl; exact int_eq (i64_in (by omega) (by omega)))
        (repeat (first | (with_reducible first | apply wpl_nil | apply thenQ_n) | (apply wlp; apply pv_assign; exact fI rfl)))
        exact ⟨k + 1, put_self (Same.eq (by repeat (first | exact Same.hav | exact Same.refl | refine Same.put rfl ?_ | refine Same.havs rfl ?_))) rfl, ⟨by omega, hp, fun j hj hji => by
          by_cases e : j = k
          · subst e; exact h3
          · exact hne j (by omega) hji⟩, by omega⟩
    · have e : k = i := by omega
      subst e
      (repeat (first | (with_reducible first | apply WP_region | apply thenQ_n | apply inBlk_n | apply thenQ_exit | apply WP_exit) | ((with_reducible apply inBlk_same); exact rfl) | (apply wlp; apply pv_move; exact fI rfl)))
      (apply wlp; exact pv_add rfl rfl; exact int_eq (i64_in (by omega) (by omega)))
      (repeat (first | (with_reducible first | apply wpl_nil | apply thenQ_n) | (apply wlp; apply pv_assign; exact fI rfl)))
      exact ⟨k + 1, put_self (Same.eq (by repeat (first | exact Same.hav | exact Same.refl | refine Same.put rfl ?_ | refine Same.havs rfl ?_))) rfl, ⟨by omega, hp, below_succ hall (pN_of hlt (fun j hj => hne j hj hj))⟩, by omega⟩
  · have e : i = l.length := by omega
    subst e
    (repeat (first | (with_reducible first | apply WP_seq | apply WP_region | apply wpl_nil | apply thenQ_n | apply thenQ_exit | apply WP_ret | apply WP_exit) | ((with_reducible apply inBlk_same); exact rfl) | (apply wlp; exact pv_assign; exact rfl)))
    exact ret_tmp rfl rfl ⟨_, rfl, bool_eq (by rw [same_out hall]; rfl), hp.keeps⟩


theorem c42 (s : Option Addr) (c : Nat) (l : List Int) (x : Int) (w : World) (hn : l.length ≤ 9223372036854775807) (hs : SlAt w 1 eI s l) : Ret Try.prog 42 [.slice s l.length c, .int .i64 x] w (fun v w' => v = .bool (memD x l) ∧ Keeps [] w w') := by
  refine Ret.of_WP Try.func42 rfl Try.ntmps42 rfl ?_
  have hp := Hp.start (M := []) (w := w)
  (repeat (first | (with_reducible first | apply WP_seq | apply WP_block | apply WP_region | apply wpl_nil | apply thenQ_n) | (apply wlp; apply pv_assign; (first | exact fI rfl | exact fB rfl))))
  refine WP_loopS [4, 5, 6, 7, 8, 9, 10, 11, 12, 13, 14, 15, 16, 17] (fun (i : Nat) F => F.put 5 (.int .i64 i)) (fun i w' => i ≤ l.length ∧ Hp w [] w' [] ∧ ∀ j (hj : j < i) (hl : j < l.length), l[j] ≠ x) (fun i => l.length - i) 0 (put_self (Same.eq .refl) rfl) ⟨Nat.zero_le _, hp, by simp⟩ ?_
  clear hp
  rintro u i w1 ⟨hi, hp, hall⟩
  (repeat (first | (with_reducible first | apply WP_seq | apply WP_region | apply wpl_nil | apply thenQ_n) | (apply wlp; ((first | apply pv_move | (apply pf_len; exact rfl) | apply pv_lss) <;> exact rfl); (first | exact fI rfl | exact fB rfl | exact fS rfl))))
  refine WP_cond_d rfl (fun h => ?_) (fun h => ?_)
  · have hlt : i < l.length := by omega
    obtain ⟨b0, o0, hs0, hc0⟩ := hs.base (by omega)
    have hci := hc0 i _ (List.getElem?_eq_getElem hlt) 0 _ rfl
    (repeat (first | (with_reducible first | apply WP_seq | apply WP_block | apply WP_region | apply wpl_nil | apply thenQ_n | apply WP_skip) | (apply wlp; ((first | apply pv_move | (apply pf_load; exact rfl) | (apply pv_eql; (first | exact rfl | exact ev_sel rfl (by assumption))) | (apply pf_index; exact rfl)) <;> (first | exact rfl | assumption | exact hp.old0 (by assumption))); (first | exact fI rfl | exact fB rfl | exact fP rfl | exact fS rfl))))
    refine WP_cond_d rfl (fun h2 => ?_) (fun h2 => ?_)
    · (repeat (first | (with_reducible first | apply WP_seq | apply WP_region | apply wpl_nil | apply thenQ_n | apply thenQ_ret | apply inBlk_ret | apply WP_ret) | (apply wlp; exact pv_assign; exact rfl)))
      exact ret_tmp rfl rfl ⟨_, rfl, bool_eq (by unfold memD; rw [eq_comm, decide_eq_true_eq, ← h2]; exact List.getElem_mem hlt), hp.keeps⟩
    · (repeat (first | (with_reducible first | apply WP_region | apply thenQ_n | apply inBlk_n | apply WP_skip) | (apply wlp; apply pv_move; exact fI rfl)))
      (apply wlp; exact pv_add rfl rfl; exact int_eq (i64_in (by omega) (by omega)))
      (repeat (first | (with_reducible first | apply wpl_nil | apply thenQ_n) | (apply wlp; apply pv_assign; exact fI rfl)))
      exact ⟨i + 1, put_self (Same.eq (by repeat (first | exact Same.hav | exact Same.refl | refine Same.put rfl ?_ | refine Same.havs rfl ?_))) rfl, ⟨by omega, hp, fun j hj hl => by
        by_cases e : j = i
        · subst e; exact h2
        · exact hall j (by omega) hl⟩, by omega⟩
  · have e : i = l.length := by omega
    subst e
    (repeat (first | (with_reducible first | apply WP_seq | apply WP_region | apply wpl_nil | apply thenQ_n | apply thenQ_exit | apply WP_ret | apply WP_exit) | ((with_reducible apply inBlk_same); exact rfl) | (apply wlp; exact pv_assign; exact rfl)))
    refine ret_tmp rfl rfl ⟨_, rfl, bool_eq ?_, hp.keeps⟩
    unfold memD
    rw [eq_comm, decide_eq_false_iff_not]
    intro hm
    obtain ⟨j, hj, e⟩ := List.getElem_of_mem hm
    exact hall j hj hj e

def forB (d : Dr) : Bool :=
  (((!decide (d.kind = 1)) && (((!decide (d.pool = 0)) || (!decide (d.pick = 0))) || decide (0 < (d.tiers.length : Int)) || d.roll)) || ((!decide (d.kind = 2)) && (decide (0 < (d.places.length : Int)) || (!decide (d.cls = 0))))) || ((!decide (d.kind = 3)) && ((!decide (d.size = 0)) || decide (0 < (d.quotas.length : Int))))
theorem c32 (d : Dr) (a : DrA) (w : World) : Ret Try.prog 32 [drV d a] w (fun v w' => v = .bool (forB d) ∧ Keeps [] w w') := by
  refine Ret.of_WP Try.func32 rfl Try.ntmps32 rfl ?_
  have hp := Hp.start (M := []) (w := w)
  (repeat (first | (with_reducible first | apply WP_seq | apply WP_region | apply wpl_nil | apply thenQ_n | apply WP_ret) | ((first | apply wlp | (apply wlg; exact rfl; exact rfl) | (apply wlg2; exact rfl; exact rfl)); (intros; ((first | apply pv_move | apply pv_assign | apply pf_field | (apply pf_load; exact rfl) | (apply pf_len; exact rfl) | exact pv_and rfl rfl rfl | exact pv_or rfl rfl rfl | apply pv_gtr | (apply pv_neq; (first | exact rfl | exact ev_sel rfl (by assumption))) | exact pv_and2 (ev_sel rfl (by assumption)) rfl (by assumption) rfl) <;> (first | exact rfl | exact ev_sel rfl (by assumption) | exact hp.cell 0 rfl rfl))); (intros; (first | exact fI rfl | exact fB rfl | exact fP rfl | exact fS rfl | exact ev_sel rfl (by assumption)))) | (apply wls; exact sbox13 hp rfl; rintro _ w ⟨b, rfl, hp⟩)))
  exact ret_tmp rfl rfl ⟨_, rfl, rfl, hp.keeps⟩
end Go.Proofs.Ytgephdcapajaiaa
