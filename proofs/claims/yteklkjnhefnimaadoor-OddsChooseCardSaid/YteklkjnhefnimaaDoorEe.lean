/- odds: Match; conditions: the lists lie in memory. -/
import Derived.Test.YteklkjnhefnimaaDoorEd
import Derived.Test.YteklkjnhefnimaaDoorNd
namespace Go.Proofs.YteklkjnhefnimaaDoor
open Go.Eng Go.Dig

/-- what the map of Match holds: the picks, and which of them are still open -/
def opn (a b : List Int) (j : Nat) : Int → Option Value := fun x => if x ∈ a then some (.bool (decide (x ∉ b.take j))) else none
theorem opn_get (a b : List Int) (j : Nat) (x : Int) : (opn a b j x).getD (.bool false) = .bool (decide (x ∈ a ∧ x ∉ b.take j)) := by
  unfold opn
  by_cases h : x ∈ a <;> simp [h]
theorem opn_zero (a b : List Int) : setF (fun x => decide (x ∈ a)) = opn a b 0 := by
  funext x
  unfold setF opn
  by_cases h : x ∈ a <;> simp [h]
theorem opn_put {a b : List Int} {j : Nat} {x : Int} (hx : b[j]? = some x) (h : x ∈ a ∧ x ∉ b.take j) : (fun y => if y = x then some (.bool false) else opn a b j y) = opn a b (j + 1) := by
  funext y
  have hl : j < b.length := (List.getElem?_eq_some_iff.1 hx).1
  have hx2 : b[j] = x := (List.getElem?_eq_some_iff.1 hx).2
  unfold opn
  rw [List.take_succ_eq_append_getElem hl, hx2]
  by_cases hy : y = x
  · subst hy
    simp [h.1]
  · by_cases h2 : y ∈ a <;> simp [hy, h2]
theorem opn_same {a b : List Int} {j : Nat} {x : Int} (hx : b[j]? = some x) (h : ¬ (x ∈ a ∧ x ∉ b.take j)) : opn a b j = opn a b (j + 1) := by
  funext y
  have hl : j < b.length := (List.getElem?_eq_some_iff.1 hx).1
  have hx2 : b[j] = x := (List.getElem?_eq_some_iff.1 hx).2
  unfold opn
  rw [List.take_succ_eq_append_getElem hl, hx2]
  by_cases h2 : y ∈ a
  · by_cases hy : y = x
    · subst hy
      have h3 : y ∈ b.take j := by
        by_cases h3 : y ∈ b.take j
        · exact h3
        · exact absurd ⟨h2, h3⟩ h
      simp [h2, h3]
    · simp [h2, hy]
  · simp [h2]

attribute [local irreducible] PV StepF wpl wpd WP Ret

theorem c25 (a b : List Int) (s s2 : Option Addr) (c c2 : Nat) (w : World) (hs : SlAt w 1 eI s a) (hs2 : SlAt w 1 eI s2 b) (hla : a.length ≤ 9223372036854775806) (hlb : b.length ≤ 9223372036854775806) :
    Ret Tryd.prog 25 [.slice s a.length c, .slice s2 b.length c2] w (fun v w' => v = .int .i64 (matchN a b : Int) ∧ Keeps [] w w') := by
  refine Ret.of_WP Tryd.func25 rfl Tryd.ntmps25 rfl ?_
  have hp := Hp.start (M := []) (w := w)
  (repeat (first | (with_reducible first | apply WP_seq | apply WP_region | apply wpl_nil | apply thenQ_n) | (apply wlp; apply pv_assign; exact fI rfl)))
  (apply wls; exact st_makemap kInt hp; rintro _ w1 ⟨mb, rfl, hp⟩)
  rw [← setF_none (fun (x : Int) => decide (x ∈ a.take 0)) (by simp)] at hp
  (repeat (first | (with_reducible first | apply WP_seq | apply WP_block | apply WP_region | apply wpl_nil | apply thenQ_n) | (apply wlp; ((first | apply pv_move | apply pv_assign | (apply pf_len; exact rfl)) <;> exact rfl); (first | exact fI rfl | exact fS rfl | exact fM rfl))))
  refine WP_loopS [7, 14, 15, 16, 17, 18, 19, 20] (fun (i : Nat) F => F.put 14 (.int .i64 (i : Int))) (fun i w' => i ≤ a.length ∧ Hp w [] w' [mapE kInt mb (setF (fun (x : Int) => decide (x ∈ a.take i)))]) (fun i => a.length - i) 0 (put_self (Same.eq .refl) rfl) ⟨Nat.zero_le _, hp⟩ ?_
  clear hp
  rintro u i w2 ⟨hi, hp⟩
  (repeat (first | (with_reducible first | apply WP_seq | apply WP_region | apply wpl_nil | apply thenQ_n) | (apply wlp; (apply pv_lss <;> exact rfl); exact fB rfl)))
  refine WP_cond_d rfl (fun h2 => ?_) (fun h2 => ?_)
  · have hlt : i < a.length := by omega
    obtain ⟨b0, o0, hs0, hc0⟩ := hs.base (by omega)
    have hci := hc0 i _ (List.getElem?_eq_getElem hlt) 0 _ rfl
    (repeat (first | (with_reducible first | apply WP_seq | apply WP_block | apply WP_region | apply wpl_nil | apply thenQ_n | apply WP_skip) | (apply wlp; ((first | apply pv_move | apply pv_assign | (apply pf_load; exact rfl) | (apply pf_index; exact rfl)) <;> (first | exact rfl | assumption | exact hp.old0 (by assumption))); (first | exact fI rfl | exact fP rfl | exact fM rfl))))
    (apply wls0; exact st_setadd hp 0 rfl rfl rfl rfl (mapTyI_ok (t := 85) rfl).1 (mapTyI_ok (t := 85) rfl).2.1; rintro _ w3 ⟨rfl, hp⟩)
    have e : (fun x => decide (x = a[i]) || decide (x ∈ a.take i)) = (fun (x : Int) => decide (x ∈ a.take (i + 1))) := by
      funext x
      rw [List.take_succ_eq_append_getElem hlt, Bool.eq_iff_iff]
      simp only [Bool.or_eq_true, decide_eq_true_eq, List.mem_append, List.mem_singleton]
      exact or_comm
    rw [e] at hp
    (repeat (with_reducible first | apply WP_region | apply wpl_nil | apply thenQ_n | apply inBlk_n))
    (apply wlp; exact pv_add rfl rfl; exact int_eq (i64_in (by omega) (by omega)))
    (repeat (first | (with_reducible first | apply wpl_nil | apply thenQ_n) | (apply wlp; apply pv_move; exact fI rfl)))
    exact ⟨i + 1, put_self (Same.eq (by repeat (first | exact Same.hav | exact Same.refl | refine Same.put rfl ?_ | refine Same.havs rfl ?_))) rfl, ⟨by omega, hp⟩, by omega⟩
  · obtain rfl : i = a.length := by omega
    rw [List.take_length, opn_zero a b] at hp
    (repeat (first | (with_reducible first | apply WP_seq | apply WP_block | apply WP_region | apply wpl_nil | apply thenQ_n | apply thenQ_exit | apply WP_exit) | ((with_reducible apply inBlk_same); exact rfl) | (apply wlp; ((first | apply pv_move | apply pv_assign | (apply pf_len; exact rfl)) <;> exact rfl); (first | exact fI rfl | exact fS rfl))))
    refine WP_loopS [8, 10, 23, 24, 25, 26, 27, 28, 29, 30, 31, 32, 33, 34] (fun (j : Nat) F => (F.put 23 (.int .i64 (j : Int))).put 8 (.int .i64 ((el b a j).length : Int))) (fun j w' => j ≤ b.length ∧ Hp w [] w' [mapE kInt mb (opn a b j)]) (fun j => b.length - j) 0 (put_self (put_self (Same.eq .refl) rfl) rfl) ⟨Nat.zero_le _, hp⟩ ?_
    clear hp
    rintro u2 j w3 ⟨hj, hp⟩
    (repeat (first | (with_reducible first | apply WP_seq | apply WP_region | apply wpl_nil | apply thenQ_n) | (apply wlp; (apply pv_lss <;> exact rfl); exact fB rfl)))
    refine WP_cond_d rfl (fun h3 => ?_) (fun h3 => ?_)
    · have hlt : j < b.length := by omega
      obtain ⟨b0, o0, hs0, hc0⟩ := hs2.base (by omega)
      have hgj := List.getElem?_eq_getElem hlt
      have hcj := hc0 j _ hgj 0 _ rfl
      have hel := el_succ (b := a) hgj
      have hle := el_len b a j
      generalize b[j] = x at hcj hgj hel
      (repeat (first | (with_reducible first | apply WP_seq | apply WP_block | apply WP_region | apply wpl_nil | apply thenQ_n | apply WP_skip) | (apply wlp; ((first | apply pv_move | apply pv_assign | (apply pf_load; exact rfl) | (apply pf_index; exact rfl)) <;> (first | exact rfl | assumption | exact hp.old0 (by assumption))); (first | exact fI rfl | exact fP rfl | exact fM rfl))))
      (apply wlp; exact pv_lookup hp 0 rfl rfl rfl (mapTyI_ok (t := 85) rfl).1 (mapTyI_ok (t := 85) rfl).2.1 (mapTyI_ok (t := 85) rfl).2.2; exact opn_get _ _ _ _)
      (repeat (with_reducible first | apply wpl_nil | apply thenQ_n))
      refine WP_cond_d rfl (fun h => ?_) (fun h => ?_)
      · rw [if_pos h] at hel
        (repeat (first | (with_reducible first | apply WP_seq | apply WP_region) | (apply wlp; apply pv_move; (first | exact fI rfl | exact fM rfl))))
        (apply wls0; exact st_mapput (v := .bool false) hp 0 rfl rfl rfl rfl (mapTyI_ok (t := 85) rfl).1 (mapTyI_ok (t := 85) rfl).2.1; rintro _ w4 ⟨rfl, hp⟩)
        rw [opn_put hgj h] at hp
        (repeat (first | (with_reducible first | apply WP_region | apply wpl_nil | apply thenQ_n) | (apply wlp; apply pv_move; exact fI rfl)))
        (apply wlp; exact pv_add rfl rfl; exact int_eq (i64_in (by omega) (by omega)))
        (repeat (first | (with_reducible first | apply WP_region | apply wpl_nil | apply thenQ_n | apply inBlk_n) | (apply wlp; apply pv_assign; exact fI rfl)))
        (apply wlp; exact pv_add rfl rfl; exact int_eq (i64_in (by omega) (by omega)))
        (repeat (first | (with_reducible first | apply wpl_nil | apply thenQ_n) | (apply wlp; apply pv_move; exact fI rfl)))
        exact ⟨j + 1, put_self (put_self (Same.eq (by repeat (first | exact Same.hav | exact Same.refl | refine Same.put rfl ?_ | refine Same.havs rfl ?_))) rfl) (int_eq (by rw [hel]; rfl)), ⟨by omega, hp⟩, by omega⟩
      · rw [if_neg h] at hel
        rw [opn_same hgj h] at hp
        (repeat (with_reducible first | apply WP_region | apply thenQ_n | apply inBlk_n | apply WP_skip))
        (apply wlp; exact pv_add rfl rfl; exact int_eq (i64_in (by omega) (by omega)))
        (repeat (first | (with_reducible first | apply wpl_nil | apply thenQ_n) | (apply wlp; apply pv_move; exact fI rfl)))
        exact ⟨j + 1, put_self (put_self (Same.eq (by repeat (first | exact Same.hav | exact Same.refl | refine Same.put rfl ?_ | refine Same.havs rfl ?_))) rfl) (int_eq (by rw [hel]; rfl)), ⟨by omega, hp⟩, by omega⟩
    · obtain rfl : j = b.length := by omega
      (repeat (first | (with_reducible first | apply WP_seq | apply WP_region | apply wpl_nil | apply thenQ_n | apply thenQ_exit | apply WP_ret | apply WP_exit) | ((with_reducible apply inBlk_same); exact rfl) | (apply wlp; (first | apply pv_move | apply pv_assign); exact fI rfl)))
      exact ret_tmp rfl rfl ⟨_, rfl, by rw [matchN_comm a b]; rfl, hp.keeps⟩
end Go.Proofs.YteklkjnhefnimaaDoor
