/- nat: add, subtract; conditions: the lists lie in memory and are short. -/
import Derived.Test.YteklkjnhefnimaaDoorDb
namespace Go.Proofs.YteklkjnhefnimaaDoor
open Go.Eng Go.Dig
section
variable {n : Nat} {w0 w : World} {M : List Nat} {L : List Ent} {F : Fr} {d : Option Tmp} {ty : TypeId} {pos : String} {aft : Array Edge} {g : Option (Nat × Bool)} {x y : Operand}
theorem sf_make {α : Type} (enc : α → List Value) (x0 : α) {t e by_ m : Nat} {kl kc : IntKind} {z : Value} (hp : Hp w0 M w L) (ht : slTy t = some (e, 1)) (hz : zeroTy e = some z) (hby : byteTy e = some by_)
    (hx : ev n F x = .int kl m) (hy : ev n F y = .int kc m) (henc : enc x0 = [z]) (h1 : oneV z = true) (hm : m < 1000000000) (hb : Nat.ble by_ 1000 = true) :
    StepF Tryd.prog n ⟨d, .makeSlice t x y, ty, pos, aft, g⟩ F w (fun u w' => ∃ b, u = .slice (some ⟨b, 0, none⟩) m m ∧ SVL (some ⟨b, 0, none⟩) m (List.replicate m x0) ∧ Hp w0 M w' (ownL enc e 1 (some ⟨b, 0, none⟩) m (List.replicate m x0) :: L)) :=
  st_make1 enc x0 hp (slTy_ok ht).1 (slTy_ok ht).2 (zeroTy_ok hz) (byteTy_ok hby) hx hy henc h1 hm hb
end
theorem take_set {l : List Nat} {i d : Nat} (h : i < l.length) : (l.set i d).take (i + 1) = l.take i ++ [d] := by
  rw [List.take_succ_eq_append_getElem (by simpa using h), List.take_set]
  congr 1
  · rw [List.set_eq_of_length_le (by simp; omega)]
  · simp
theorem val_take_set {b : Nat} {l : List Nat} {i d : Nat} (h : i < l.length) : val b ((l.set i d).take (i + 1)) = val b (l.take i) + b ^ i * d := by
  rw [take_set h, val_append, List.length_take, Nat.min_eq_left (by omega), val_single]

attribute [local irreducible] PV StepF wpl wpd WP Ret

theorem c44 (x y : Nat) (s s2 : Option Addr) (c c2 : Nat) (w : World) (hx : DA w x s c) (hy : DA w y s2 c2) (hlx : (dN x).length ≤ 100000) (hly : (dN y).length ≤ 100000) :
    Ret Tryd.prog 44 [.slice s (dN x).length c, .slice s2 (dN y).length c2] w (fun v w' => ∃ s' c', v = .slice s' (dN (x + y)).length c' ∧ DA w' (x + y) s' c' ∧ Keeps [] w w') := by
  refine Ret.of_WP Tryd.func44 rfl Tryd.ntmps44 rfl ?_
  have hp := Hp.start (M := []) (w := w)
  (repeat (first | (with_reducible first | apply WP_seq | apply WP_region | apply wpl_nil | apply thenQ_n) | (apply wlp; ((first | apply pv_move | apply pv_assign | (apply pf_len; exact rfl) | apply pv_lss) <;> exact rfl); (first | exact fI rfl | exact fB rfl | exact fS rfl))))
  refine WP_mid (fun F w1 => ∃ x' y' s s2 c c2, x' + y' = x + y ∧ (dN y').length ≤ (dN x').length ∧ (dN x').length ≤ 100000 ∧ DA w x' s c ∧ DA w y' s2 c2 ∧ Hp w [] w1 [] ∧ FrHas F [(0, .slice s (dN x').length c), (1, .slice s2 (dN y').length c2)]) ?_ ?_
  · refine WP_cond_d rfl (fun h => ?_) (fun h => ?_)
    · (repeat (first | (with_reducible first | apply WP_region | apply wpl_nil | apply thenQ_n) | (apply wlp; (first | apply pv_move | apply pv_assign); exact fS rfl)))
      exact ⟨y, x, s2, s, c2, c, by omega, by omega, by omega, hy, hx, hp, rfl, rfl, trivial⟩
    · (repeat (with_reducible first | apply thenQ_n | apply WP_skip))
      exact ⟨x, y, s, s2, c, c2, rfl, by omega, by omega, hx, hy, hp, rfl, rfl, trivial⟩
  · clear hp hx hy hlx hly
    rintro F w1 ⟨x', y', s, s2, c, c2, hxy, hle, hlx, hx, hy, hp, hF⟩
    rw [← hxy]
    have hlx1 : (dN x').length < (dN x').length + 1 := by omega
    refine WP_fresh [(0, .slice s (dN x').length c), (1, .slice s2 (dN y').length c2)] hF ?_
    intro F0
    clear hF
    (repeat (first | (with_reducible first | apply WP_seq | apply WP_region) | (apply wlp; ((first | apply pv_move | (apply pf_len; exact rfl)) <;> exact rfl); (first | exact fI rfl | exact fS rfl))))
    (apply wlp; (exact pv_add rfl rfl); exact int_eq (b := (((dN x').length + 1 : Nat) : Int)) (by rw [i64_in (by omega) (by omega)]; omega))
    (apply wls; exact sf_make eW 0 hp rfl rfl rfl rfl rfl rfl rfl (by omega) rfl; rintro _ w2 ⟨g, rfl, hv, hp⟩)
    (repeat (first | (with_reducible first | apply WP_seq | apply WP_block | apply WP_region | apply wpl_nil | apply thenQ_n) | (apply wlp; ((first | apply pv_move | apply pv_assign | (apply pf_len; exact rfl)) <;> exact rfl); (first | exact fI rfl | exact fS rfl))))
    refine WP_loop3 [6, 7, 21, 22, 23, 24, 25, 26, 27, 28, 29, 30, 31, 32, 33, 34, 35, 36, 37, 38, 39, 40, 41, 42, 43, 44, 45, 46, 47, 48, 49] (fun (i cy : Nat) (z : List Nat) F => (F.put 21 (.int .i64 i)).put 6 (.int .u64 (cy : Int)))
      (fun i cy z w' => i ≤ (dN x').length ∧ z.length = (dN x').length + 1 ∧ Bd 4294967296 z ∧ cy < 2 ∧ val 4294967296 (z.take i) + cy * 4294967296 ^ i = x' % 4294967296 ^ i + y' % 4294967296 ^ i ∧ SVL (some ⟨g, 0, none⟩) ((dN x').length + 1) z ∧ Hp w [] w' [ownL eW 93 1 (some ⟨g, 0, none⟩) ((dN x').length + 1) z])
      (fun i _ _ => (dN x').length - i) 0 0 (List.replicate ((dN x').length + 1) 0) (put_self (put_self (Same.eq .refl) rfl) rfl) ⟨Nat.zero_le _, by simp, zeros_bd (by decide) _, by omega, by simp [val, Nat.mod_one], hv, hp⟩ ?_
    clear hp hv
    rintro u i cy z w3 ⟨hi, hzl, hzb, hcy, hval, hv, hp⟩
    (repeat (first | (with_reducible first | apply WP_seq | apply WP_region | apply wpl_nil | apply thenQ_n) | (apply wlp; (apply pv_lss <;> exact rfl); exact fB rfl)))
    refine WP_cond_d rfl (fun h2 => ?_) (fun h2 => ?_)
    · have hlt : i < (dN x').length := by omega
      have hlt1 : i < (dN x').length + 1 := by omega
      have hiz : i < z.length := by omega
      obtain ⟨b0, o0, hs0, hc0⟩ := hx.at_.base (by omega)
      have hci := hc0 i _ (List.getElem?_eq_getElem hlt) 0 _ rfl
      have hbd := (dN_bd x').get hlt
      have hg := dN_get hlt
      generalize (dN x')[i] = dx at hci hbd hg
      (repeat (first | (with_reducible first | apply WP_seq | apply WP_block | apply WP_region | apply wpl_nil | apply thenQ_n | apply WP_skip) | (apply wlp; ((first | apply pv_move | apply pv_assign | (apply pf_load; exact rfl) | (apply pf_index; exact rfl) | exact pn_64of32 rfl rfl rfl (by assumption)) <;> (first | exact rfl | assumption | exact hp.old0 (by assumption))); (first | exact fI rfl | exact fP rfl | exact fS rfl))))
      (apply wlp; exact pn_add64 rfl rfl (by omega); exact fI rfl)
      (repeat (first | (with_reducible first | apply WP_seq | apply WP_region | apply wpl_nil | apply thenQ_n) | (apply wlp; ((first | apply pv_move | apply pv_assign | (apply pf_len; exact rfl) | apply pv_lss) <;> exact rfl); (first | exact fI rfl | exact fB rfl | exact fS rfl))))
      obtain ⟨dy, hgy, hbdy⟩ : ∃ dy, dy = y' / 4294967296 ^ i % 4294967296 ∧ dy < 4294967296 := ⟨_, rfl, Nat.mod_lt _ (by decide)⟩
      refine WP_cond_d rfl (fun h3 => ?_) (fun h3 => ?_)
      · have hlty : i < (dN y').length := by omega
        obtain ⟨b1, o1, hs1, hc1⟩ := hy.at_.base (by omega)
        have hcj := hc1 i _ (List.getElem?_eq_getElem hlty) 0 _ rfl
        have hg2 := dN_get hlty
        rw [← hgy] at hg2
        rw [hg2] at hcj
        (repeat (first | with_reducible apply WP_region | (apply wlp; ((first | apply pv_move | (apply pf_load; exact rfl) | (apply pf_index; exact rfl) | exact pn_64of32 rfl rfl rfl (by assumption)) <;> (first | exact rfl | assumption | exact hp.old0 (by assumption))); (first | exact fI rfl | exact fP rfl | exact fS rfl))))
        (apply wlp; exact pn_add64 rfl rfl (by omega); exact fI rfl)
        (repeat (first | (with_reducible first | apply WP_seq | apply WP_region | apply wpl_nil | apply thenQ_n) | (apply wlp; ((first | apply pv_move | apply pv_assign | (apply pf_index; exact rfl) | exact pn_32of rfl rfl rfl) <;> (first | exact rfl | assumption)); (first | exact fI rfl | exact fP rfl | exact fS rfl))))
        (apply wls0; exact st_setL eW z i _ hp 0 rfl hv hiz rfl rfl (fun _ => rfl) rfl rfl (sizeTy_ok rfl); rintro _ w4 ⟨rfl, hp⟩)
        (repeat (first | (with_reducible first | apply WP_region | apply wpl_nil | apply thenQ_n) | (apply wlp; apply pv_move; exact fI rfl)))
        (apply wlp; exact pn_shr (b := 32) rfl rfl (by decide); exact fI rfl)
        (repeat (first | (with_reducible first | apply WP_region | apply wpl_nil | apply thenQ_n | apply inBlk_n) | (apply wlp; apply pv_assign; exact fI rfl)))
        (apply wlp; exact pv_add rfl rfl; exact int_eq (i64_in (by omega) (by omega)))
        (repeat (first | (with_reducible first | apply wpl_nil | apply thenQ_n) | (apply wlp; apply pv_move; exact fI rfl)))
        refine ⟨i + 1, _, _, put_self (put_self (Same.eq (by repeat (first | exact Same.hav | exact Same.refl | refine Same.put rfl ?_ | refine Same.havs rfl ?_))) rfl) rfl, ⟨by omega, ?_, ?_, ?_, ?_, hv.set _ _, hp⟩, by omega⟩
        · rw [List.length_set, hzl]
        · exact hzb.set (by omega)
        · omega
        · rw [val_take_set hiz]
          exact add_step hval (by rw [← hg, ← hgy]; omega)
      · have hdy : dy = 0 := by rw [hgy]; exact dN_beyond (by omega)
        (repeat (first | (with_reducible first | apply WP_seq | apply WP_region | apply thenQ_n | apply WP_skip) | (apply wlp; ((first | apply pv_move | (apply pf_index; exact rfl) | exact pn_32of rfl rfl rfl) <;> (first | exact rfl | assumption)); (first | exact fI rfl | exact fP rfl | exact fS rfl))))
        (apply wls0; exact st_setL eW z i _ hp 0 rfl hv hiz rfl rfl (fun _ => rfl) rfl rfl (sizeTy_ok rfl); rintro _ w4 ⟨rfl, hp⟩)
        (repeat (first | (with_reducible first | apply WP_region | apply wpl_nil | apply thenQ_n) | (apply wlp; apply pv_move; exact fI rfl)))
        (apply wlp; exact pn_shr (b := 32) rfl rfl (by decide); exact fI rfl)
        (repeat (first | (with_reducible first | apply WP_region | apply wpl_nil | apply thenQ_n | apply inBlk_n) | (apply wlp; apply pv_assign; exact fI rfl)))
        (apply wlp; exact pv_add rfl rfl; exact int_eq (i64_in (by omega) (by omega)))
        (repeat (first | (with_reducible first | apply wpl_nil | apply thenQ_n) | (apply wlp; apply pv_move; exact fI rfl)))
        refine ⟨i + 1, _, _, put_self (put_self (Same.eq (by repeat (first | exact Same.hav | exact Same.refl | refine Same.put rfl ?_ | refine Same.havs rfl ?_))) rfl) rfl, ⟨by omega, ?_, ?_, ?_, ?_, hv.set _ _, hp⟩, by omega⟩
        · rw [List.length_set, hzl]
        · exact hzb.set (by omega)
        · omega
        · rw [val_take_set hiz]
          exact add_step hval (by rw [← hg, ← hgy]; omega)
    · obtain rfl : i = (dN x').length := by omega
      have hiz : (dN x').length < z.length := by omega
      (repeat (first | (with_reducible first | apply WP_seq | apply WP_region | apply thenQ_n | apply thenQ_exit | apply WP_exit) | ((with_reducible apply inBlk_same); exact rfl) | (apply wlp; ((first | apply pv_move | (apply pf_len; exact rfl) | (apply pf_index; exact rfl) | exact pn_32of rfl rfl rfl) <;> (first | exact rfl | assumption)); (first | exact fI rfl | exact fP rfl | exact fS rfl))))
      (apply wls0; exact st_setL eW z (dN x').length _ hp 0 rfl hv hiz rfl rfl (fun _ => rfl) rfl rfl (sizeTy_ok rfl); rintro _ w4 ⟨rfl, hp⟩)
      have hv := hv.set (dN x').length (cy % 4294967296)
      have hb : Bd 4294967296 (z.set (dN x').length (cy % 4294967296)) := hzb.set (by omega)
      have hV : val 4294967296 (z.set (dN x').length (cy % 4294967296)) = x' + y' := by
        have h1 := val_take_set (b := 4294967296) (d := cy % 4294967296) hiz
        rw [List.take_of_length_le (by simp; omega)] at h1
        rw [h1, Nat.mod_eq_of_lt (show cy < 4294967296 by omega), Nat.mul_comm, hval, Nat.mod_eq_of_lt (dN_lt (Nat.le_refl _)), Nat.mod_eq_of_lt (dN_lt hle)]
      (repeat (first | (with_reducible first | apply WP_seq | apply WP_region | apply wpl_nil | apply thenQ_n) | (apply wlp; apply pv_move; exact fS rfl)))
      (apply wls; exact st_call rfl ent66 (by rw [List.length_set, hzl]; rfl) (c66d hp hv (by unfold maxLen; omega) hb hV); rintro _ w2 ⟨s', c', rfl, hd, hk⟩)
      (repeat (first | (with_reducible first | apply wpl_nil | apply thenQ_n | apply WP_ret) | (apply wlp; apply pv_assign; exact fS rfl)))
      exact ret_tmp rfl rfl ⟨_, rfl, s', c', rfl, hd, hk⟩

theorem c72 (x y : Nat) (s s2 : Option Addr) (c c2 : Nat) (w : World) (hx : DA w x s c) (hy : DA w y s2 c2) (hlx : (dN x).length ≤ 100000) (hyx : y ≤ x) :
    Ret Tryd.prog 72 [.slice s (dN x).length c, .slice s2 (dN y).length c2] w (fun v w' => ∃ s' c', v = .slice s' (dN (x - y)).length c' ∧ DA w' (x - y) s' c' ∧ Keeps [] w w') := by
  have hly := hy.len
  refine Ret.of_WP Tryd.func72 rfl Tryd.ntmps72 rfl ?_
  have hp := Hp.start (M := []) (w := w)
  (repeat (first | (with_reducible first | apply WP_seq | apply WP_region | apply wpl_nil | apply thenQ_n) | (apply wlp; ((first | apply pv_move | apply pv_assign | (apply pf_len; exact rfl)) <;> exact rfl); (first | exact fI rfl | exact fS rfl))))
  (apply wls; exact sf_make eW 0 hp rfl rfl rfl rfl rfl rfl rfl (by omega) rfl; rintro _ w2 ⟨g, rfl, hv, hp⟩)
  (repeat (first | (with_reducible first | apply WP_seq | apply WP_block | apply WP_region | apply wpl_nil | apply thenQ_n) | (apply wlp; ((first | apply pv_move | apply pv_assign | (apply pf_len; exact rfl)) <;> exact rfl); (first | exact fI rfl | exact fS rfl))))
  refine WP_loop3 [6, 7, 8, 14, 15, 16, 17, 18, 19, 20, 21, 22, 23, 24, 25, 26, 27, 28, 29, 30, 31, 32, 33, 34, 35, 36, 37, 38, 39, 40, 41, 42] (fun (i cy : Nat) (z : List Nat) F => (F.put 14 (.int .i64 i)).put 6 (.int .u64 (cy : Int)))
    (fun i cy z w' => i ≤ (dN x).length ∧ z.length = (dN x).length ∧ Bd 4294967296 z ∧ cy < 2 ∧ val 4294967296 (z.take i) + y % 4294967296 ^ i = x % 4294967296 ^ i + cy * 4294967296 ^ i ∧ SVL (some ⟨g, 0, none⟩) (dN x).length z ∧ Hp w [] w' [ownL eW 93 1 (some ⟨g, 0, none⟩) (dN x).length z])
    (fun i _ _ => (dN x).length - i) 0 0 (List.replicate (dN x).length 0) (put_self (put_self (Same.eq .refl) rfl) rfl) ⟨Nat.zero_le _, by simp, zeros_bd (by decide) _, by omega, by simp [val, Nat.mod_one], hv, hp⟩ ?_
  clear hp hv
  rintro u i cy z w3 ⟨hi, hzl, hzb, hcy, hval, hv, hp⟩
  (repeat (first | (with_reducible first | apply WP_seq | apply WP_region | apply wpl_nil | apply thenQ_n) | (apply wlp; (apply pv_lss <;> exact rfl); exact fB rfl)))
  refine WP_cond_d rfl (fun h2 => ?_) (fun h2 => ?_)
  · have hlt : i < (dN x).length := by omega
    have hiz : i < z.length := by omega
    obtain ⟨b0, o0, hs0, hc0⟩ := hx.at_.base (by omega)
    have hci := hc0 i _ (List.getElem?_eq_getElem hlt) 0 _ rfl
    have hbd := (dN_bd x).get hlt
    have hg := dN_get hlt
    generalize (dN x)[i] = dx at hci hbd hg
    (repeat (first | (with_reducible first | apply WP_seq | apply WP_block | apply WP_region | apply wpl_nil | apply thenQ_n | apply WP_skip) | (apply wlp; ((first | apply pv_move | apply pv_assign | (apply pf_load; exact rfl) | (apply pf_index; exact rfl) | exact pn_64of32 rfl rfl rfl (by assumption)) <;> (first | exact rfl | assumption | exact hp.old0 (by assumption))); (first | exact fI rfl | exact fP rfl | exact fS rfl))))
    (apply wlp; exact pn_sub64 rfl rfl (by omega); exact fI rfl)
    (repeat (first | (with_reducible first | apply WP_seq | apply WP_region | apply wpl_nil | apply thenQ_n) | (apply wlp; ((first | apply pv_move | apply pv_assign | (apply pf_len; exact rfl) | apply pv_lss) <;> exact rfl); (first | exact fI rfl | exact fB rfl | exact fS rfl))))
    obtain ⟨dy, hgy, hbdy⟩ : ∃ dy, dy = y / 4294967296 ^ i % 4294967296 ∧ dy < 4294967296 := ⟨_, rfl, Nat.mod_lt _ (by decide)⟩
    refine WP_cond_d rfl (fun h3 => ?_) (fun h3 => ?_)
    · have hlty : i < (dN y).length := by omega
      obtain ⟨b1, o1, hs1, hc1⟩ := hy.at_.base (by omega)
      have hcj := hc1 i _ (List.getElem?_eq_getElem hlty) 0 _ rfl
      have hg2 := dN_get hlty
      rw [← hgy] at hg2
      rw [hg2] at hcj
      (repeat (first | with_reducible apply WP_region | (apply wlp; ((first | apply pv_move | (apply pf_load; exact rfl) | (apply pf_index; exact rfl) | exact pn_64of32 rfl rfl rfl (by assumption)) <;> (first | exact rfl | assumption | exact hp.old0 (by assumption))); (first | exact fI rfl | exact fP rfl | exact fS rfl))))
      (apply wlp; exact pn_sub64 rfl rfl (by omega); exact fI rfl)
      (repeat (first | (with_reducible first | apply WP_seq | apply WP_region | apply wpl_nil | apply thenQ_n) | (apply wlp; ((first | apply pv_move | apply pv_assign | (apply pf_index; exact rfl) | exact pn_32of rfl rfl rfl) <;> (first | exact rfl | assumption)); (first | exact fI rfl | exact fP rfl | exact fS rfl))))
      (apply wls0; exact st_setL eW z i _ hp 0 rfl hv hiz rfl rfl (fun _ => rfl) rfl rfl (sizeTy_ok rfl); rintro _ w4 ⟨rfl, hp⟩)
      (repeat (first | (with_reducible first | apply WP_region | apply wpl_nil | apply thenQ_n) | (apply wlp; apply pv_move; exact fI rfl)))
      (apply wlp; exact pn_shr (b := 63) rfl rfl (by decide); exact fI rfl)
      (repeat (first | (with_reducible first | apply WP_region | apply wpl_nil | apply thenQ_n | apply inBlk_n) | (apply wlp; apply pv_assign; exact fI rfl)))
      (apply wlp; exact pv_add rfl rfl; exact int_eq (i64_in (by omega) (by omega)))
      (repeat (first | (with_reducible first | apply wpl_nil | apply thenQ_n) | (apply wlp; apply pv_move; exact fI rfl)))
      refine ⟨i + 1, _, _, put_self (put_self (Same.eq (by repeat (first | exact Same.hav | exact Same.refl | refine Same.put rfl ?_ | refine Same.havs rfl ?_))) rfl) rfl, ⟨by omega, ?_, ?_, ?_, ?_, hv.set _ _, hp⟩, by omega⟩
      · rw [List.length_set, hzl]
      · exact hzb.set (by omega)
      · unfold sb64
        omega
      · rw [val_take_set hiz]
        exact sub_step hval (by rw [← hg, ← hgy]; unfold sb64; omega)
    · have hdy : dy = 0 := by rw [hgy]; exact dN_beyond (by omega)
      (repeat (first | (with_reducible first | apply WP_seq | apply WP_region | apply thenQ_n | apply WP_skip) | (apply wlp; ((first | apply pv_move | (apply pf_index; exact rfl) | exact pn_32of rfl rfl rfl) <;> (first | exact rfl | assumption)); (first | exact fI rfl | exact fP rfl | exact fS rfl))))
      (apply wls0; exact st_setL eW z i _ hp 0 rfl hv hiz rfl rfl (fun _ => rfl) rfl rfl (sizeTy_ok rfl); rintro _ w4 ⟨rfl, hp⟩)
      (repeat (first | (with_reducible first | apply WP_region | apply wpl_nil | apply thenQ_n) | (apply wlp; apply pv_move; exact fI rfl)))
      (apply wlp; exact pn_shr (b := 63) rfl rfl (by decide); exact fI rfl)
      (repeat (first | (with_reducible first | apply WP_region | apply wpl_nil | apply thenQ_n | apply inBlk_n) | (apply wlp; apply pv_assign; exact fI rfl)))
      (apply wlp; exact pv_add rfl rfl; exact int_eq (i64_in (by omega) (by omega)))
      (repeat (first | (with_reducible first | apply wpl_nil | apply thenQ_n) | (apply wlp; apply pv_move; exact fI rfl)))
      refine ⟨i + 1, _, _, put_self (put_self (Same.eq (by repeat (first | exact Same.hav | exact Same.refl | refine Same.put rfl ?_ | refine Same.havs rfl ?_))) rfl) rfl, ⟨by omega, ?_, ?_, ?_, ?_, hv.set _ _, hp⟩, by omega⟩
      · rw [List.length_set, hzl]
      · exact hzb.set (by omega)
      · unfold sb64
        omega
      · rw [val_take_set hiz]
        exact sub_step hval (by rw [← hg, ← hgy]; unfold sb64; omega)
  · obtain rfl : i = (dN x).length := by omega
    have hV : val 4294967296 z = x - y := by
      rw [List.take_of_length_le (by omega)] at hval
      refine sub_end hval (dN_lt (Nat.le_refl _)) hyx ?_
      have := val_lt hzb
      rwa [hzl] at this
    (repeat (first | (with_reducible first | apply WP_seq | apply WP_region | apply thenQ_n | apply thenQ_exit | apply WP_exit) | ((with_reducible apply inBlk_same); exact rfl) | (apply wlp; apply pv_move; exact fS rfl)))
    (apply wls; exact st_call rfl ent66 (by rw [hzl]; rfl) (c66d hp hv (by unfold maxLen; omega) hzb hV); rintro _ w2 ⟨s', c', rfl, hd, hk⟩)
    (repeat (first | (with_reducible first | apply wpl_nil | apply thenQ_n | apply WP_ret) | (apply wlp; apply pv_assign; exact fS rfl)))
    exact ret_tmp rfl rfl ⟨_, rfl, s', c', rfl, hd, hk⟩
end Go.Proofs.YteklkjnhefnimaaDoor
