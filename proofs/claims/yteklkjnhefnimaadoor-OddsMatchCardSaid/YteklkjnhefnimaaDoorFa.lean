/- sortesref18: has, Match; the law OddsMatch returns true; conditions: the lists lie in memory and are not too long for it. -/
import Derived.Test.YteklkjnhefnimaaDoorEk
namespace Go.Proofs.YteklkjnhefnimaaDoor
open Go.Eng Go.Dig

section
variable {n : Nat} {w w0 : World} {M : List Nat} {L : List Ent} {F : Fr} {d : Option Tmp} {ty : TypeId} {pos : String} {aft : Array Edge} {g : Option (Nat × Bool)} {x y : Operand}
/-- append of one element onto an owned list, however long -/
theorem sf_app1B {α : Type} (enc : α → List Value) (l : List α) (xv : α) {t e k by_ b c : Nat} {z : Value} {s : Option Addr} (hp : Hp w0 M w L) (i j : Nat) (ht : slTy t = some (e, k)) (hby : byteTy e = some by_) (hz : zeroTy e = some z)
    (hzs : z.cells.size = k) (hpos : Nat.blt 0 k = true) (hk : ∀ x, (enc x).length = k) (hx : ev n F x = .slice s l.length c) (hy : ev n F y = .slice (some ⟨b, 0, none⟩) 1 1)
    (hi : L[i]? = some (ownL enc e k s c l)) (hv : SVL s c l) (hj : L[j]? = some (blk b (enc xv).length (frOf (enc xv)) e)) (h1 : (enc xv).all oneV = true) (hlen : l.length + 1 ≤ maxLen) (hb2 : (l.length + 1) * by_ ≤ 140737488355328) :
    StepF Tryd.prog n ⟨d, .call ⟨.builtin .append, #[x, y], #[t, t]⟩, ty, pos, aft, g⟩ F w
      (fun u w' => ∃ s' c', u = .slice s' (l ++ [xv]).length c' ∧ SVL s' c' (l ++ [xv]) ∧ Hp w0 M w' (L.set i (ownL enc e k s' c' (l ++ [xv])))) := by
  refine (sf_append hp i ht hby hz hzs hpos hx hy hi hv (flatMap_len enc k hk l) (by rw [hk]; omega) (blk_src hp j hj) (by simpa [List.all_eq_true] using h1) hlen hb2).mono ?_
  rintro u w' ⟨h2, h3⟩
  obtain ⟨s', c', rfl⟩ := h2.ex
  have e1 : (l ++ [xv]).length = l.length + 1 := by simp
  have e2 : (l ++ [xv]).flatMap enc = l.flatMap enc ++ enc xv := by simp
  refine ⟨s', c', by rw [e1], by unfold SVL; rw [e1]; exact h2, ?_⟩
  unfold ownL
  rw [e1, e2]
  exact h3
end

attribute [local irreducible] PV StepF wpl wpd WP Ret
attribute [local irreducible] Fit RB

theorem c55 (l : List Int) (x : Int) (s : Option Addr) (c : Nat) (w : World) (hs : SlAt w 1 eI s l) (hl : l.length ≤ 9223372036854775806) :
    Ret Tryd.prog 55 [.slice s l.length c, .int .i64 x] w (fun v w' => v = .bool (decide (x ∈ l)) ∧ Keeps [] w w') := by
  refine Ret.of_WP Tryd.func55 rfl Tryd.ntmps55 rfl ?_
  have hp := Hp.start (M := []) (w := w)
  (repeat (first | (with_reducible first | apply WP_seq | apply WP_block | apply WP_region | apply wpl_nil | apply thenQ_n) | (apply wlp; apply pv_assign; (first | exact fI rfl | exact fB rfl))))
  refine WP_loopS [4, 5, 6, 7, 8, 9, 10, 11, 12, 13, 14, 15, 16, 17] (fun (i : Nat) F => F.put 5 (.int .i64 (i : Int))) (fun i w' => i ≤ l.length ∧ x ∉ l.take i ∧ Hp w [] w' []) (fun i => l.length - i) 0 (put_self (Same.eq .refl) rfl) ⟨Nat.zero_le _, by simp, hp⟩ ?_
  clear hp
  rintro u i w1 ⟨hi, hx, hp⟩
  (repeat (first | (with_reducible first | apply WP_seq | apply WP_region | apply wpl_nil | apply thenQ_n) | (apply wlp; ((first | apply pv_move | (apply pf_len; exact rfl) | apply pv_lss) <;> exact rfl); (first | exact fI rfl | exact fB rfl | exact fS rfl))))
  refine WP_cond_d rfl (fun h2 => ?_) (fun h2 => ?_)
  · have hlt : i < l.length := by omega
    obtain ⟨b0, o0, hs0, hc0⟩ := hs.base (by omega)
    have hci := hc0 i _ (List.getElem?_eq_getElem hlt) 0 _ rfl
    have htk := List.take_succ_eq_append_getElem hlt
    have hmem := List.getElem_mem hlt
    generalize l[i] = y at hci htk hmem
    (repeat (first | (with_reducible first | apply WP_seq | apply WP_block | apply WP_region | apply wpl_nil | apply thenQ_n | apply WP_skip) | (apply wlp; ((first | apply pv_move | (apply pf_load; exact rfl) | (apply pv_eql; (first | exact rfl | exact ev_sel rfl (by assumption))) | (apply pf_index; exact rfl)) <;> (first | exact rfl | assumption | exact hp.old0 (by assumption))); (first | exact fI rfl | exact fB rfl | exact fP rfl | exact fS rfl))))
    refine WP_cond_d rfl (fun h => ?_) (fun h => ?_)
    · rw [decide_eq_true (show x ∈ l from h ▸ hmem)]
      (repeat (first | (with_reducible first | apply WP_seq | apply WP_region | apply wpl_nil | apply thenQ_n | apply thenQ_ret | apply inBlk_ret | apply WP_ret) | (apply wlp; apply pv_assign; exact fB rfl)))
      exact ret_tmp rfl rfl ⟨_, rfl, rfl, hp.keeps⟩
    · (repeat (first | (with_reducible first | apply WP_region | apply thenQ_n | apply inBlk_n | apply WP_skip) | (apply wlp; apply pv_move; exact fI rfl)))
      (apply wlp; exact pv_add rfl rfl; exact int_eq (i64_in (by omega) (by omega)))
      (repeat (first | (with_reducible first | apply wpl_nil | apply thenQ_n) | (apply wlp; apply pv_assign; exact fI rfl)))
      refine ⟨i + 1, put_self (Same.eq (by repeat (first | exact Same.hav | exact Same.refl | refine Same.put rfl ?_ | refine Same.havs rfl ?_))) rfl, ⟨by omega, ?_, hp⟩, by omega⟩
      rw [htk, List.mem_append, List.mem_singleton]
      rintro (h3 | h3)
      · exact hx h3
      · exact h h3.symm
  · obtain rfl : i = l.length := by omega
    rw [List.take_length] at hx
    rw [decide_eq_false hx]
    (repeat (first | (with_reducible first | apply WP_seq | apply WP_region | apply wpl_nil | apply thenQ_n | apply thenQ_exit | apply WP_ret | apply WP_exit) | ((with_reducible apply inBlk_same); exact rfl) | (apply wlp; apply pv_assign; exact fB rfl)))
    exact ret_tmp rfl rfl ⟨_, rfl, rfl, hp.keeps⟩
theorem c26 (a b : List Int) (s s2 : Option Addr) (c c2 : Nat) (w : World) (hs : SlAt w 1 eI s a) (hs2 : SlAt w 1 eI s2 b) (hla : a.length ≤ 9223372036854775806) (hlb : b.length ≤ 9223372036854775806) (hca : a.length ≤ c) :
    Ret Tryd.prog 26 [.slice s a.length c, .slice s2 b.length c2] w (fun v w' => v = .int .i64 (matchN a b : Int) ∧ Keeps [] w w') := by
  refine Ret.of_WP Tryd.func26 rfl Tryd.ntmps26 rfl ?_
  have hp := Hp.start (M := []) (w := w)
  (repeat (first | (with_reducible first | apply WP_seq | apply WP_block | apply WP_region | apply wpl_nil | apply thenQ_n) | (apply wlp; apply pv_assign; exact fI rfl)))
  refine WP_loopS [5, 6, 7, 8, 9, 10, 11, 12, 13, 14, 15, 16, 17, 18, 19, 20, 21, 22, 23, 24, 25, 26, 27, 28, 29, 30, 31, 32, 33, 34, 35] (fun (i : Nat) F => (F.put 6 (.int .i64 (i : Int))).put 5 (.int .i64 ((el a b i).length : Int))) (fun i w' => i ≤ a.length ∧ Hp w [] w' []) (fun i => a.length - i) 0 (put_self (put_self (Same.eq .refl) rfl) rfl) ⟨Nat.zero_le _, hp⟩ ?_
  clear hp
  rintro u i w1 ⟨hi, hp⟩
  (repeat (first | (with_reducible first | apply WP_seq | apply WP_region | apply wpl_nil | apply thenQ_n) | (apply wlp; ((first | apply pv_move | (apply pf_len; exact rfl) | apply pv_lss) <;> exact rfl); (first | exact fI rfl | exact fB rfl | exact fS rfl))))
  refine WP_cond_d rfl (fun h2 => ?_) (fun h2 => ?_)
  · have hlt : i < a.length := by omega
    obtain ⟨b0, o0, hs0, hc0⟩ := hs.base (by omega)
    have hgi := List.getElem?_eq_getElem hlt
    have hci := hc0 i _ hgi 0 _ rfl
    have hel := el_succ (b := b) hgi
    have hle := el_len a b i
    generalize a[i] = x at hci hgi hel
    have h55 := c55 (a.take i) x s c
    rw [List.length_take, Nat.min_eq_left (by omega)] at h55
    (repeat (with_reducible first | apply WP_seq | apply WP_block | apply thenQ_n | apply WP_skip))
    refine WP_draw mixed (by kernel_rfl) (fun w' => Hp _ _ w' _) hp.drew ?_
    have hp := hp.drew
    (repeat ((apply wdp; exact rfl); (intro w hp; intros; apply pv_move); (intros; (first | exact fI rfl | exact fS rfl))))
    (apply wdp; exact rfl; (intro w hp; exact pv_sliceTo rfl rfl rfl (by omega)); exact fS rfl)
    (repeat ((apply wdp; exact rfl); (intro w hp; intros; ((first | apply pv_move | (apply pf_load; exact rfl) | (apply pf_index; exact rfl)) <;> (first | exact rfl | assumption | exact hp.old0 (by assumption)))); (intros; (first | exact fI rfl | exact fP rfl | exact fS rfl))))
    (apply wds; exact rfl; exact st_call rfl ent55 rfl (h55 _ (SlAt_take (hs.keep0 hp.keeps) i) (by omega)); rintro _ w2 ⟨rfl, hk⟩; have hp := hp.call hk; refine ⟨hp, ?_⟩)
    (repeat ((apply wdp; exact rfl); (intro w hp; intros; apply pv_assign); (intros; exact fB rfl)))
    refine wpd_nil ?_
    (repeat (first | (with_reducible first | apply WP_seq | apply WP_region | apply thenQ_n) | (apply wlp; ((first | apply pv_move | (apply pf_load; exact rfl) | (apply pf_index; exact rfl)) <;> (first | exact rfl | assumption | exact hp.old0 (by assumption))); (first | exact fI rfl | exact fP rfl | exact fS rfl))))
    (apply wls; exact st_call rfl ent55 rfl (c55 b x s2 c2 _ (hs2.keep0 hp.keeps) hlb); rintro _ w3 ⟨rfl, hk⟩; have hp := hp.call hk)
    (repeat (first | (with_reducible first | apply WP_seq | apply WP_region | apply wpl_nil | apply thenQ_n) | ((first | apply wlp | (apply wlg; exact rfl; exact rfl)); (intros; ((first | apply pv_move | apply pv_assign | exact pv_and rfl rfl rfl | apply pv_not) <;> exact ev_sel rfl (by assumption))); (intros; exact fB rfl))))
    refine WP_cond rfl (fun h => ?_) (fun h => ?_)
    · rw [if_pos (by simpa using h)] at hel
      (repeat (first | with_reducible apply WP_region | (apply wlp; apply pv_move; exact fI rfl)))
      (apply wlp; exact pv_add rfl rfl; exact int_eq (i64_in (by omega) (by omega)))
      (repeat (first | (with_reducible first | apply WP_region | apply wpl_nil | apply thenQ_n | apply inBlk_n) | (apply wlp; (first | apply pv_move | apply pv_assign); exact fI rfl)))
      (apply wlp; exact pv_add rfl rfl; exact int_eq (i64_in (by omega) (by omega)))
      (repeat (first | (with_reducible first | apply wpl_nil | apply thenQ_n) | (apply wlp; apply pv_assign; exact fI rfl)))
      exact ⟨i + 1, put_self (put_self (Same.eq (by repeat (first | exact Same.hav | exact Same.refl | refine Same.put rfl ?_ | refine Same.havs rfl ?_))) rfl) (int_eq (by rw [hel]; rfl)), ⟨by omega, hp⟩, by omega⟩
    · rw [if_neg (by simpa using h)] at hel
      (repeat (first | (with_reducible first | apply WP_region | apply thenQ_n | apply inBlk_n | apply WP_skip) | (apply wlp; apply pv_move; exact fI rfl)))
      (apply wlp; exact pv_add rfl rfl; exact int_eq (i64_in (by omega) (by omega)))
      (repeat (first | (with_reducible first | apply wpl_nil | apply thenQ_n) | (apply wlp; apply pv_assign; exact fI rfl)))
      exact ⟨i + 1, put_self (put_self (Same.eq (by repeat (first | exact Same.hav | exact Same.refl | refine Same.put rfl ?_ | refine Same.havs rfl ?_))) rfl) (int_eq (by rw [hel]; rfl)), ⟨by omega, hp⟩, by omega⟩
  · obtain rfl : i = a.length := by omega
    (repeat (first | (with_reducible first | apply WP_seq | apply WP_region | apply wpl_nil | apply thenQ_n | apply thenQ_exit | apply WP_ret | apply WP_exit) | ((with_reducible apply inBlk_same); exact rfl) | (apply wlp; (first | apply pv_move | apply pv_assign); exact fI rfl)))
    exact ret_tmp rfl rfl ⟨_, rfl, rfl, hp.keeps⟩
theorem c7 (a b : List Int) (s s2 : Option Addr) (c c2 : Nat) (w : World) (hs : SlAt w 1 eI s a) (hs2 : SlAt w 1 eI s2 b) (hla : a.length * 8 ≤ 140737488351232) (hlb : b.length * 8 ≤ 140737488351232) (hca : a.length ≤ c) :
    Ret Tryd.prog 7 [.slice s a.length c, .slice s2 b.length c2] w (fun v w' => v = .bool true ∧ Keeps [] w w') := by
  refine Ret.of_WP Tryd.func7 rfl Tryd.ntmps7 rfl ?_
  have hp := (Hp.start (M := []) (w := w)).nilL eI 3 1
  (repeat (first | (with_reducible first | apply WP_seq | apply WP_region | apply wpl_nil | apply thenQ_n) | (apply wlp; apply pv_assign; exact fB rfl)))
  (apply wls; exact st_call rfl ent11 rfl (c11 _); rintro _ w1 ⟨rfl, hk⟩; have hp := hp.call hk)
  (repeat (first | (with_reducible first | apply WP_seq | apply WP_region | apply wpl_nil | apply thenQ_n) | (apply wlp; ((first | apply pv_move | apply pv_assign | (apply pf_len; exact rfl)) <;> exact rfl); (first | exact fI rfl | exact fB rfl | exact fS rfl))))
  (apply wlp; exact pv_sub rfl rfl; exact int_eq (i64_in (by omega) (by omega)))
  (repeat (first | (with_reducible first | apply WP_block | apply wpl_nil | apply thenQ_n) | (apply wlp; apply pv_assign; exact fI rfl)))
  refine WP_loop3 [6, 7, 13, 14, 15, 16, 17, 18, 19, 20, 21, 22, 23] (fun (k : Nat) (st : Option Addr) (ct : Nat) F => (F.put 7 (.int .i64 ((k : Int) - 1))).put 6 (.slice st (a.drop k).reverse.length ct))
    (fun k st ct w' => k ≤ a.length ∧ SVL st ct (a.drop k).reverse ∧ Hp w [] w' [ownL eI 3 1 st ct (a.drop k).reverse]) (fun k _ _ => k) a.length none 0 (put_self (put_self (Same.eq .refl) rfl) (by rw [List.drop_length]; rfl)) ⟨Nat.le_refl _, by rw [List.drop_length]; exact SVL.nil, by rw [List.drop_length]; exact hp⟩ ?_
  clear hp
  rintro u k st ct w2 ⟨hk, hv, hp⟩
  (repeat (first | (with_reducible first | apply WP_seq | apply WP_region | apply wpl_nil | apply thenQ_n) | (apply wlp; ((first | apply pv_move | apply pv_geq) <;> exact rfl); (first | exact fI rfl | exact fB rfl))))
  refine WP_cond_d rfl (fun h => ?_) (fun h => ?_)
  · obtain ⟨j, rfl⟩ : ∃ j, k = j + 1 := ⟨k - 1, by omega⟩
    have hlt : j < a.length := by omega
    obtain ⟨b0, o0, hs0, hc0⟩ := hs.base (by omega)
    have hci := hc0 j _ (List.getElem?_eq_getElem hlt) 0 _ rfl
    have hdr : (a.drop j).reverse = (a.drop (j + 1)).reverse ++ [a[j]] := by rw [List.drop_eq_getElem_cons hlt, List.reverse_cons]
    have hll : (a.drop (j + 1)).reverse.length + 1 ≤ a.length := by rw [List.length_reverse, List.length_drop]; omega
    generalize a[j] = x at hci hdr
    have ej : ((j + 1 : Nat) : Int) - 1 = (j : Int) := by omega
    rw [ej]
    (repeat (first | (with_reducible first | apply WP_seq | apply WP_block | apply WP_region | apply thenQ_n | apply WP_skip) | (apply wlp; ((first | apply pv_move | (apply pf_load; exact rfl) | (apply pf_index; exact rfl)) <;> (first | exact rfl | assumption | exact hp.old0 (by assumption))); (first | exact fI rfl | exact fP rfl | exact fS rfl))))
    (apply wls; exact sf_slice hp rfl rfl rfl rfl rfl rfl rfl; rintro _ w3 ⟨nb, rfl, hp⟩)
    (apply wls; exact sf_app1B eI (a.drop (j + 1)).reverse x hp 1 0 rfl rfl rfl rfl rfl (fun _ => rfl) rfl rfl rfl hv rfl rfl (by unfold maxLen; omega) (by omega); rintro _ w4 ⟨s', c', rfl, hv', hp⟩)
    have hp := hp.tail
    have hp : Hp w [] w4 [ownL eI 3 1 s' c' ((a.drop (j + 1)).reverse ++ [x])] := hp
    rw [← hdr] at hv' hp ⊢
    (repeat (first | (with_reducible first | apply WP_region | apply wpl_nil | apply thenQ_n | apply inBlk_n) | (apply wlp; (first | apply pv_move | apply pv_assign); (first | exact fI rfl | exact fS rfl))))
    (apply wlp; exact pv_sub rfl rfl; exact int_eq (i64_in (by omega) (by omega)))
    (repeat (first | (with_reducible first | apply wpl_nil | apply thenQ_n) | (apply wlp; apply pv_assign; exact fI rfl)))
    exact ⟨j, s', c', put_self (put_self (Same.eq (by repeat (first | exact Same.hav | exact Same.refl | refine Same.put rfl ?_ | refine Same.havs rfl ?_))) rfl) rfl, ⟨by omega, hv', hp⟩, by omega⟩
  · obtain rfl : k = 0 := by omega
    rw [List.drop_zero] at hv hp ⊢
    have hst : SlAt w2 1 eI st a.reverse := ownL_At hp 0 rfl hv (fun _ => rfl)
    have hlr : a.reverse.length = a.length := List.length_reverse
    (repeat (first | (with_reducible first | apply WP_seq | apply WP_region | apply thenQ_n | apply thenQ_exit | apply WP_exit) | ((with_reducible apply inBlk_same); exact rfl) | (apply wlp; apply pv_move; exact fS rfl)))
    (apply wls; exact st_call rfl ent25 rfl (c25 a b s s2 c c2 _ (hs.keep0 hp.keeps) (hs2.keep0 hp.keeps) (by omega) (by omega)); rintro _ w5 ⟨rfl, hk2⟩; have hp := hp.call hk2)
    have hst := hst.keep0 hk2
    (repeat (first | (with_reducible first | apply WP_seq | apply WP_region | apply wpl_nil | apply thenQ_n) | (apply wlp; (intros; (first | apply pv_move | apply pv_assign)); (intros; (first | exact fI rfl | exact fB rfl | exact fS rfl))) | ((apply wlpT; exact rfl; exact rfl); ((first | apply pv_move | apply pv_assign)); (intros; (first | exact fI rfl | exact fB rfl | exact fS rfl))) | (apply wlpF; exact rfl; exact rfl; exact rfl) | (apply wlpU; exact rfl; exact rfl)))
    (apply wlsT; exact rfl; exact rfl; exact st_call rfl ent26 rfl (c26 a b s s2 c c2 _ (hs.keep0 hp.keeps) (hs2.keep0 hp.keeps) (by omega) (by omega) hca); rintro _ w6 ⟨rfl, hk2⟩; have hp := hp.call hk2)
    have hst := hst.keep0 hk2
    (apply wlpT; exact rfl; exact rfl; exact pv_eql rfl rfl; exact bool_eq (b := true) (decide_eq_true rfl))
    (repeat (first | (apply wlp; (intros; (first | apply pv_move | exact pv_andT rfl rfl)); (intros; (first | exact fB rfl | exact fS rfl))) | ((apply wlpT; exact rfl; exact rfl); ((first | apply pv_move | exact pv_andT rfl rfl)); (intros; (first | exact fB rfl | exact fS rfl))) | (apply wlpF; exact rfl; exact rfl; exact rfl) | (apply wlpU; exact rfl; exact rfl)))
    (apply wlsT; exact rfl; exact rfl; exact st_call rfl ent25 rfl (c25 b a s2 s c2 c _ (hs2.keep0 hp.keeps) (hs.keep0 hp.keeps) (by omega) (by omega)); rintro _ w7 ⟨rfl, hk2⟩; have hp := hp.call hk2)
    have hst := hst.keep0 hk2
    ((apply wlpT; exact rfl; exact rfl); (apply pv_move); (intros; exact fI rfl))
    (apply wlpT; exact rfl; exact rfl; exact pv_eql rfl rfl; exact bool_eq (b := true) (decide_eq_true (by rw [matchN_comm])))
    (repeat (first | (apply wlp; (intros; (first | apply pv_move | exact pv_andT rfl rfl)); (intros; (first | exact fB rfl | exact fS rfl))) | ((apply wlpT; exact rfl; exact rfl); ((first | apply pv_move | exact pv_andT rfl rfl)); (intros; (first | exact fB rfl | exact fS rfl))) | (apply wlpF; exact rfl; exact rfl; exact rfl) | (apply wlpU; exact rfl; exact rfl)))
    (apply wlsT; exact rfl; exact rfl; exact st_call rfl ent25 rfl (c25 a.reverse b st s2 ct c2 _ hst (hs2.keep0 hp.keeps) (by omega) (by omega)); rintro _ w8 ⟨rfl, hk2⟩; have hp := hp.call hk2)
    ((apply wlpT; exact rfl; exact rfl); (apply pv_move); (intros; exact fI rfl))
    (apply wlpT; exact rfl; exact rfl; exact pv_eql rfl rfl; exact bool_eq (b := true) (decide_eq_true (by rw [matchN_rev])))
    (repeat (first | (apply wlp; (intros; (first | apply pv_move | exact pv_andT rfl rfl)); (intros; (first | exact fB rfl | exact fS rfl))) | ((apply wlpT; exact rfl; exact rfl); ((first | apply pv_move | exact pv_andT rfl rfl)); (intros; (first | exact fB rfl | exact fS rfl))) | (apply wlpF; exact rfl; exact rfl; exact rfl) | (apply wlpU; exact rfl; exact rfl)))
    (apply wlsT; exact rfl; exact rfl; exact st_call rfl ent25 rfl (c25 a [] s none c 0 _ (hs.keep0 hp.keeps) SlAt_nil (by omega) (by simp)); rintro _ w9 ⟨rfl, hk2⟩; have hp := hp.call hk2)
    (apply wlpT; exact rfl; exact rfl; exact pv_eql rfl rfl; exact bool_eq (b := true) (decide_eq_true (by rw [matchN_comm]; rfl)))
    (repeat (first | (with_reducible first | apply wpl_nil | apply thenQ_n | apply WP_ret) | (apply wlp; (intros; (first | apply pv_assign | exact pv_andT rfl rfl)); (intros; exact fB rfl)) | (apply wlpF; exact rfl; exact rfl; exact rfl) | (apply wlpU; exact rfl; exact rfl)))
    exact ret_tmp rfl rfl ⟨_, rfl, rfl, hp.keeps⟩
end Go.Proofs.YteklkjnhefnimaaDoor
