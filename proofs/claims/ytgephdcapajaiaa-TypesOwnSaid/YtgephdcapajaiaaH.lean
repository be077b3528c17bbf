/- Layer 14: the reference's tiers, places, quotas; conditions: the rules lie in memory. -/
import Derived.Test.YtgephdcapajaiaaG
namespace Go.Proofs.Ytgephdcapajaiaa
open Go.Eng
attribute [local irreducible] PV StepF wpl wpd WP Ret

theorem own_SlAtN {α : Type} {w0 w : World} {M : List Nat} {L : List Ent} {i e k n : Nat} {enc : α → List Value} {s : Option Addr} {c : Nat} {l : List α} (hp : Hp w0 M w L) (hi : L[i]? = some (ownE (.slice s n c) e k n (l.flatMap enc))) (hv : SV (.slice s n c) n)
    (hn : l.length = n) (hk : ∀ x, (enc x).length = k) : SlAt w k enc s l := by
  subst hn
  exact own_SlAt hp hi hv hk

theorem withinB_len (n : Nat) : withinB (n : Int) 1 12 = !lenBad n := by
  unfold withinB lenBad
  rw [Bool.eq_iff_iff]
  simp

theorem tierOk_eq (pick : Int) (t : Int × Int) : tierOk pick t = (withinB t.1 0 pick && withinB t.2 1 100) := by
  unfold tierOk withinB
  simp [Bool.and_assoc]

theorem all_take_succ {α : Type} {l : List α} {p : α → Bool} {i : Nat} (hi : i < l.length) (h : (l.take i).all p = true) (h2 : p l[i] = true) : (l.take (i + 1)).all p = true := by
  rw [List.take_add_one, List.getElem?_eq_getElem hi, List.all_append, h]
  simpa using h2
theorem all_false_of {α : Type} {l : List α} {p : α → Bool} {i : Nat} (hi : i < l.length) (h2 : p l[i] = false) : l.all p = false := by
  rw [List.all_eq_false]
  exact ⟨l[i], List.getElem_mem hi, by simp [h2]⟩

theorem take_snoc_flat {α β : Type} (l : List α) (f : α → β) (enc : β → List Value) (i : Nat) (hi : i < l.length) : ((l.take (i + 1)).map f).flatMap enc = ((l.take i).map f).flatMap enc ++ enc (f l[i]) := by
  rw [List.take_add_one, List.getElem?_eq_getElem hi, List.map_append, List.flatMap_append]
  simp

theorem sum2_snoc (l : List (Int × Int)) (i : Nat) (hi : i < l.length) : sum2 (l.take (i + 1)) = sum2 (l.take i) + l[i].2 := by
  unfold sum2
  rw [List.take_add_one, List.getElem?_eq_getElem hi, List.map_append, List.sum_append]
  simp
theorem sum2_bd (pick : Int) (l : List (Int × Int)) (h : l.all (tierOk pick) = true) : 0 ≤ sum2 l ∧ sum2 l ≤ 100 * l.length := by
  induction l with
  | nil => simp [sum2]
  | cons t l ih =>
    simp only [List.all_cons, Bool.and_eq_true] at h
    obtain ⟨h1, h2⟩ := h
    have := ih h2
    simp only [tierOk, Bool.and_eq_true, decide_eq_true_eq] at h1
    simp only [sum2, List.map_cons, List.sum_cons, List.length_cons] at *
    omega


theorem c34 (d : Dr) (a : DrA) (w : World) (hd : DrAt w d a) : Ret Try.prog 34 [drV d a] w (fun v w' => v = .int .i64 (ckTiers d) ∧ Keeps [] w w') := by
  refine Ret.of_WP Try.func34 rfl Try.ntmps34 rfl ?_
  have hp := Hp.start (M := []) (w := w)
  ((repeat (with_reducible first | apply WP_seq | apply WP_region)); apply wls; exact sbox13 hp rfl; rintro _ w1 ⟨db, rfl, hp⟩)
  (repeat (first | (with_reducible first | apply WP_seq | apply WP_region | apply wpl_nil | apply thenQ_n) | (apply wlp; ((first | apply pv_assign | apply pf_field | (apply pf_load; exact rfl) | (apply pf_len; exact rfl)) <;> (first | exact rfl | exact hp.cell 0 rfl rfl)); (first | exact fI rfl | exact fP rfl | exact fS rfl))))
  (apply wls; exact st_call rfl ent31 rfl (c31 _ _ _ _))
  rintro _ w2 ⟨rfl, hk⟩
  have hp := hp.call hk
  (repeat (first | (with_reducible first | apply wpl_nil | apply thenQ_n) | (apply wlp; (apply pv_not <;> exact rfl); exact fB rfl)))
  refine WP_cond rfl (fun h => ?_) (fun h => ?_)
  · (repeat (first | (with_reducible first | apply WP_seq | apply WP_region | apply wpl_nil | apply thenQ_n | apply thenQ_ret | apply WP_ret) | (apply wlp; exact pv_assign; exact rfl)))
    exact ret_tmp rfl rfl ⟨_, rfl, int_eq (Eq.symm (if_pos (by rw [withinB_len] at h; simpa using h))), hp.keeps⟩
  have h1 : lenBad d.tiers.length = false := by rw [withinB_len] at h; simpa using h
  have hn : d.tiers.length ≤ 12 := by unfold lenBad at h1; simp at h1; omega
  have h1 := neT h1
  (repeat (first | (with_reducible first | apply WP_seq | apply WP_block | apply WP_region | apply wpl_nil | apply thenQ_n | apply WP_skip) | (apply wlp; apply pv_assign; (first | exact fI rfl | exact fS rfl))))
  refine WP_loop2 [2, 3, 4, 5, 11, 12, 13, 14, 15, 16, 17, 18, 19, 20, 21, 22, 23, 24, 25, 26, 27, 28, 29, 30, 31, 32, 33, 34, 35, 36, 37, 38, 39, 40, 41, 42, 43, 44, 45, 46, 47, 48, 49, 50, 51, 52, 53, 54]
    (fun (i : Nat) (v3 : Value) F => ((F.put 3 v3).put 4 (.int .i64 (sum2 (d.tiers.take i)))).put 5 (.int .i64 i))
    (fun i v3 w' => i ≤ d.tiers.length ∧ SV v3 i ∧ (d.tiers.take i).all (tierOk d.pick) = true ∧ Hp w [] w' [ownE v3 3 1 i (((d.tiers.take i).map (·.1)).flatMap eI), blk db 13 (frOf [.string d.name, .int .i64 d.kind, .int .i64 d.round, .int .i64 d.price, .int .i64 d.pool, .int .i64 d.pick, .slice a.sT d.tiers.length a.cT, .bool d.roll, .slice a.sP d.places.length a.cP, .int .i64 d.cls, .int .i64 d.size, .slice a.sQ d.quotas.length a.cQ, .slice a.sB d.barred.length a.cB]) 30])
    (fun i _ => d.tiers.length - i) 0 (.slice none 0 0) (put_self (put_self (put_self (Same.eq .refl) rfl) rfl) rfl) ⟨Nat.zero_le _, SV.nil, by simp, hp.addNil _⟩ ?_
  clear hp
  rintro u i v3 w3 ⟨hi, hv3, hall, hp⟩
  (repeat (first | (with_reducible first | apply WP_seq | apply WP_region | apply wpl_nil | apply thenQ_n) | (apply wlp; ((first | apply pv_move | apply pf_field | (apply pf_load; exact rfl) | (apply pf_len; exact rfl) | apply pv_lss) <;> (first | exact rfl | exact hp.cell 1 rfl rfl)); (first | exact fI rfl | exact fB rfl | exact fP rfl | exact fS rfl))))
  refine WP_cond_d rfl (fun h => ?_) (fun h => ?_)
  · have hlt : i < d.tiers.length := by omega
    obtain ⟨b0, o0, hs0, hc0⟩ := hd.tiers.base (by omega)
    have hx := List.getElem?_eq_getElem hlt
    have hc1 := hc0 i _ hx 0 _ rfl
    have hc2 := hc0 i _ hx 1 _ rfl
    (repeat (with_reducible first | apply WP_seq | apply WP_block | apply thenQ_n | apply WP_skip))
    refine WP_draw mixed (by kernel_rfl) (fun w' => Hp _ _ w' _) hp.drew ?_
    have hp := hp.drew
    (repeat ((apply wdp; exact rfl); (intro w hp; intros; ((first | apply pv_move | apply pf_field | (apply pf_load; exact rfl) | (apply pf_index; exact rfl)) <;> (first | exact rfl | assumption | exact hp.cell 1 rfl rfl | exact hp.old0 (by assumption)))); (intros; (first | exact fI rfl | exact fP rfl | exact fS rfl))))
    (apply wds; exact rfl; exact st_call rfl ent31 rfl (c31 _ _ _ _))
    rintro _ w4 ⟨rfl, hk⟩
    have hp := hp.call hk
    refine ⟨hp, ?_⟩
    (repeat ((first | (apply wdp; exact rfl) | (apply wdg; exact rfl; exact rfl; exact rfl)); (intro w hp; intros; ((first | apply pv_move | apply pf_field | (apply pf_load; exact rfl) | apply pv_not | (apply pf_index; exact rfl)) <;> (first | exact rfl | exact ev_sel rfl (by assumption) | assumption | exact hp.cell 1 rfl rfl | exact hp.old0 (by assumption)))); (intros; (first | exact fI rfl | exact fB rfl | exact fP rfl | exact fS rfl))))
    (apply wdgsH hp; exact rfl; exact rfl; exact rfl; (intro hb; apply st_callG3 hp rfl ent31 (hc := c31 _ _ _ _) <;> (first | exact rfl | exact ev_sel rfl (by assumption))); intro w hp; refine ⟨hp, ?_⟩)
    (repeat ((first | (apply wdp; exact rfl) | (apply wdg; exact rfl; exact rfl; exact rfl)); (intro w hp; intros; ((first | exact pv_or rfl rfl rfl | apply pv_not) <;> exact ev_sel rfl (by assumption))); (intros; exact fB rfl)))
    refine wpd_nil ?_
    (repeat with_reducible apply thenQ_n)
    refine WP_cond rfl (fun h2 => ?_) (fun h2 => ?_)
    · have h3 : tierOk d.pick d.tiers[i] = false := by
        rw [tierOk_eq]
        rw [Bool.and_eq_false_iff]
        simpa using h2
      (repeat (first | (with_reducible first | apply WP_seq | apply WP_region | apply wpl_nil | apply thenQ_n | apply thenQ_ret | apply inBlk_ret | apply WP_ret) | (apply wlp; exact pv_assign; exact rfl)))
      exact ret_tmp rfl rfl ⟨_, rfl, int_eq (Eq.symm ((if_neg h1).trans (if_pos (all_false_of hlt h3)))), hp.keeps⟩
    · have h3 : tierOk d.pick d.tiers[i] = true := by
        rw [tierOk_eq]
        simpa using h2
      have hbd := sum2_bd d.pick _ hall
      have hlen : (d.tiers.take i).length = i := by simp; omega
      rw [hlen] at hbd
      have h4 := h3
      simp only [tierOk, Bool.and_eq_true, decide_eq_true_eq] at h4
      (repeat (first | (with_reducible first | apply WP_seq | apply WP_region | apply thenQ_n | apply WP_skip) | (apply wlp; ((first | apply pv_move | apply pf_field | (apply pf_load; exact rfl) | (apply pf_index; exact rfl)) <;> (first | exact rfl | assumption | exact hp.cell 1 rfl rfl | exact hp.old0 (by assumption))); (first | exact fI rfl | exact fP rfl | exact fS rfl | exact rfl))))
      (apply wls; exact sf_slice hp rfl rfl rfl rfl rfl rfl rfl; rintro _ w5 ⟨nb, rfl, hp⟩)
      (apply wls; exact sf_append (news := [.int .i64 d.tiers[i].1]) hp 1 rfl rfl rfl rfl rfl rfl rfl rfl hv3 (by rw [flatMap_len eI 1 (fun _ => rfl)]; simp; omega) rfl (blk_src hp 0 rfl) (by simp [oneV]) (by unfold maxLen; omega) (by omega); rintro v4 w6 ⟨hv4, hp⟩)
      have hp := Hp.tail hp
      (repeat (first | (with_reducible first | apply WP_region | apply wpl_nil | apply thenQ_n) | (apply wlp; ((first | apply pv_move | apply pv_assign | apply pf_field | (apply pf_load; exact rfl) | (apply pf_index; exact rfl)) <;> (first | exact rfl | assumption | exact hp.cell 1 rfl rfl | exact hp.old0 (by assumption))); (first | exact fI rfl | exact fP rfl | exact fS rfl | exact rfl))))
      (apply wlp; exact pv_add rfl rfl; exact int_eq (i64_in (by omega) (by omega)))
      (repeat (first | (with_reducible first | apply WP_region | apply wpl_nil | apply thenQ_n | apply inBlk_n) | (apply wlp; (first | apply pv_move | apply pv_assign); exact fI rfl)))
      (apply wlp; exact pv_add rfl rfl; exact int_eq (i64_in (by omega) (by omega)))
      (repeat (first | (with_reducible first | apply wpl_nil | apply thenQ_n) | (apply wlp; apply pv_assign; exact fI rfl)))
      refine ⟨i + 1, v4, put_self (put_self (put_self (Same.eq (by repeat (first | exact Same.hav | exact Same.refl | refine Same.put rfl ?_ | refine Same.havs rfl ?_))) rfl) (int_eq (sum2_snoc d.tiers i hlt).symm)) rfl, ⟨by omega, hv4, all_take_succ hlt hall h3, ?_⟩, by omega⟩
      have e : ((d.tiers.take (i + 1)).map (·.1)).flatMap eI = ((d.tiers.take i).map (·.1)).flatMap eI ++ [.int .i64 d.tiers[i].1] := by
        exact take_snoc_flat d.tiers (·.1) eI i hlt
      simp only [e]
      exact hp
  · have e : i = d.tiers.length := by omega
    subst e
    rw [List.take_length] at hall hp
    obtain ⟨s3, c3, rfl⟩ := hv3.ex
    have hlm : d.tiers.length = (d.tiers.map (·.1)).length := by simp
    have hsl : SlAt w3 1 eI s3 (d.tiers.map (·.1)) := by
      exact own_SlAtN (i := 0) hp rfl hv3 hlm.symm (fun _ => rfl)
    (repeat (first | (with_reducible first | apply WP_seq | apply WP_region | apply thenQ_n | apply thenQ_exit | apply WP_exit) | ((with_reducible apply inBlk_same); exact rfl) | (apply wlp; apply pv_move; exact fS rfl)))
    have hc := c33 s3 c3 (d.tiers.map (·.1)) w3 (by simp; omega) hsl
    rw [← hlm] at hc
    (apply wls; exact st_call rfl ent33 rfl hc)
    rintro _ w7 ⟨rfl, hk⟩
    have hp := hp.call hk
    have h2' : ¬ d.tiers.all (tierOk d.pick) = false := by rw [hall]; simp
    (repeat (with_reducible first | apply wpl_nil | apply thenQ_n))
    refine WP_cond rfl (fun h2 => ?_) (fun h2 => ?_)
    · (repeat (first | (with_reducible first | apply WP_seq | apply WP_region | apply wpl_nil | apply thenQ_n | apply thenQ_ret | apply WP_ret) | (apply wlp; exact pv_assign; exact rfl)))
      exact ret_tmp rfl rfl ⟨_, rfl, int_eq (Eq.symm ((if_neg h1).trans ((if_neg h2').trans (if_pos (by simpa using h2))))), hp.keeps⟩
    have h3 : ¬ nodupB (d.tiers.map (·.1)) = false := by simpa using h2
    have hbd := sum2_bd d.pick _ hall
    have hfin : ckTiers d = within (sum2 d.tiers) 0 100 := (if_neg h1).trans ((if_neg h2').trans (if_neg h3))
    (repeat (first | (with_reducible first | apply WP_seq | apply WP_region | apply wpl_nil | apply thenQ_n | apply WP_skip) | (apply wlp; ((first | apply pv_move | apply pv_gtr) <;> exact rfl); (first | exact fI rfl | exact fB rfl))))
    refine WP_cond_d rfl (fun h4 => ?_) (fun h4 => ?_)
    · simp only [List.take_length] at h4
      (repeat (first | (with_reducible first | apply WP_seq | apply WP_region | apply wpl_nil | apply thenQ_n | apply thenQ_ret | apply WP_ret) | (apply wlp; exact pv_assign; exact rfl)))
      refine ret_tmp rfl rfl ⟨_, rfl, int_eq ?_, hp.keeps⟩
      rw [hfin]
      unfold within
      rw [if_pos (.inr h4)]
    · simp only [List.take_length] at h4
      (repeat (first | (with_reducible first | apply WP_seq | apply WP_region | apply wpl_nil | apply thenQ_n | apply WP_ret | apply WP_skip) | (apply wlp; exact pv_assign; exact rfl)))
      refine ret_tmp rfl rfl ⟨_, rfl, int_eq ?_, hp.keeps⟩
      rw [hfin]
      unfold within
      rw [if_neg (by omega)]

theorem placeOk_eq (p : ByteArray × Int) : placeOk p = withinB p.2 1 1000 := rfl
theorem quotaOk_eq (sz : Int) (q : ByteArray × Int × Int) : quotaOk sz q = (withinB q.2.1 0 q.2.2 && !decide (sz < q.2.2)) := by
  unfold quotaOk withinB
  rw [Bool.eq_iff_iff]
  simp

theorem c35 (d : Dr) (a : DrA) (w : World) (hd : DrAt w d a) (hsz : ∀ p ∈ d.places, p.1.size ≤ 9223372036854775807) : Ret Try.prog 35 [drV d a] w (fun v w' => v = .int .i64 (ckPlaces d) ∧ Keeps [] w w') := by
  refine Ret.of_WP Try.func35 rfl Try.ntmps35 rfl ?_
  have hp := Hp.start (M := []) (w := w)
  ((repeat (with_reducible first | apply WP_seq | apply WP_region)); apply wls; exact sbox13 hp rfl; rintro _ w1 ⟨db, rfl, hp⟩)
  (repeat (first | (with_reducible first | apply WP_seq | apply WP_region | apply wpl_nil | apply thenQ_n) | (apply wlp; ((first | apply pv_assign | apply pf_field | (apply pf_load; exact rfl) | (apply pf_len; exact rfl)) <;> (first | exact rfl | exact hp.cell 0 rfl rfl)); (first | exact fI rfl | exact fP rfl | exact fS rfl))))
  (apply wls; exact st_call rfl ent31 rfl (c31 _ _ _ _))
  rintro _ w2 ⟨rfl, hk⟩
  have hp := hp.call hk
  (repeat (first | (with_reducible first | apply wpl_nil | apply thenQ_n) | (apply wlp; (apply pv_not <;> exact rfl); exact fB rfl)))
  refine WP_cond rfl (fun h => ?_) (fun h => ?_)
  · (repeat (first | (with_reducible first | apply WP_seq | apply WP_region | apply wpl_nil | apply thenQ_n | apply thenQ_ret | apply WP_ret) | (apply wlp; exact pv_assign; exact rfl)))
    exact ret_tmp rfl rfl ⟨_, rfl, int_eq (Eq.symm (if_pos (by rw [withinB_len] at h; simpa using h))), hp.keeps⟩
  have h1 : lenBad d.places.length = false := by rw [withinB_len] at h; simpa using h
  have hn : d.places.length ≤ 12 := by unfold lenBad at h1; simp at h1; omega
  have h1 := neT h1
  (repeat (first | (with_reducible first | apply WP_seq | apply WP_block | apply WP_region | apply wpl_nil | apply thenQ_n | apply WP_skip) | (apply wlp; apply pv_assign; (first | exact fI rfl | exact fS rfl))))
  refine WP_loop2 [2, 3, 4, 11, 12, 13, 14, 15, 16, 17, 18, 19, 20, 21, 22, 23, 24, 25, 26, 27, 28, 29, 30, 31, 32, 33, 34] (fun (i : Nat) (v3 : Value) F => (F.put 3 v3).put 4 (.int .i64 i))
    (fun i v3 w' => i ≤ d.places.length ∧ SV v3 i ∧ (d.places.take i).all (fun p => isWordB p.1) = true ∧ Hp w [] w' [ownE v3 9 1 i (((d.places.take i).map (·.1)).flatMap eS), blk db 13 (frOf [.string d.name, .int .i64 d.kind, .int .i64 d.round, .int .i64 d.price, .int .i64 d.pool, .int .i64 d.pick, .slice a.sT d.tiers.length a.cT, .bool d.roll, .slice a.sP d.places.length a.cP, .int .i64 d.cls, .int .i64 d.size, .slice a.sQ d.quotas.length a.cQ, .slice a.sB d.barred.length a.cB]) 30])
    (fun i _ => d.places.length - i) 0 (.slice none 0 0) (put_self (put_self (Same.eq .refl) rfl) rfl) ⟨Nat.zero_le _, SV.nil, by simp, hp.addNil _⟩ ?_
  clear hp
  rintro u i v3 w3 ⟨hi, hv3, hall, hp⟩
  (repeat (first | (with_reducible first | apply WP_seq | apply WP_region | apply wpl_nil | apply thenQ_n) | (apply wlp; ((first | apply pv_move | apply pf_field | (apply pf_load; exact rfl) | (apply pf_len; exact rfl) | apply pv_lss) <;> (first | exact rfl | exact hp.cell 1 rfl rfl)); (first | exact fI rfl | exact fB rfl | exact fP rfl | exact fS rfl))))
  refine WP_cond_d rfl (fun h => ?_) (fun h => ?_)
  · have hlt : i < d.places.length := by omega
    obtain ⟨b0, o0, hs0, hc0⟩ := hd.places.base (by omega)
    have hx := List.getElem?_eq_getElem hlt
    have hc1 := hc0 i _ hx 0 _ rfl
    (repeat (first | (with_reducible first | apply WP_seq | apply WP_block | apply WP_region | apply thenQ_n | apply WP_skip) | (apply wlp; ((first | apply pv_move | apply pf_field | (apply pf_load; exact rfl) | (apply pf_index; exact rfl)) <;> (first | exact rfl | assumption | exact hp.cell 1 rfl rfl | exact hp.old0 (by assumption))); (first | exact fI rfl | exact fP rfl | exact fS rfl | exact fT rfl))))
    (apply wls; exact st_call rfl ent30 rfl (c30 _ _ (hsz _ (List.getElem_mem hlt))))
    rintro _ w4 ⟨rfl, hk⟩
    have hp := hp.call hk
    (repeat (first | (with_reducible first | apply wpl_nil | apply thenQ_n) | (apply wlp; (apply pv_not <;> exact rfl); exact fB rfl)))
    refine WP_cond rfl (fun h2 => ?_) (fun h2 => ?_)
    · have h3 : isWordB d.places[i].1 = false := by simpa using h2
      (repeat (first | (with_reducible first | apply WP_seq | apply WP_region | apply wpl_nil | apply thenQ_n | apply thenQ_ret | apply inBlk_ret | apply WP_ret) | (apply wlp; exact pv_assign; exact rfl)))
      exact ret_tmp rfl rfl ⟨_, rfl, int_eq (Eq.symm ((if_neg h1).trans (if_pos (all_false_of (p := fun p => isWordB p.1) hlt h3)))), hp.keeps⟩
    · have h3 : isWordB d.places[i].1 = true := by simpa using h2
      (repeat (first | (with_reducible first | apply WP_region | apply thenQ_n | apply WP_skip) | (apply wlp; ((first | apply pv_move | apply pf_field | (apply pf_load; exact rfl) | (apply pf_index; exact rfl)) <;> (first | exact rfl | assumption | exact hp.cell 1 rfl rfl | exact hp.old0 (by assumption))); (first | exact fI rfl | exact fP rfl | exact fS rfl | exact fT rfl | exact rfl))))
      (apply wls; exact sf_slice hp rfl rfl rfl rfl rfl rfl rfl; rintro _ w5 ⟨nb, rfl, hp⟩)
      (apply wls; exact sf_append (news := [.string d.places[i].1]) hp 1 rfl rfl rfl rfl rfl rfl rfl rfl hv3 (by rw [flatMap_len eS 1 (fun _ => rfl)]; simp; omega) rfl (blk_src hp 0 rfl) (by simp [oneV]) (by unfold maxLen; omega) (by omega); rintro v4 w6 ⟨hv4, hp⟩)
      have hp := Hp.tail hp
      (repeat (first | (with_reducible first | apply WP_region | apply wpl_nil | apply thenQ_n | apply inBlk_n) | (apply wlp; (first | apply pv_move | apply pv_assign); (first | exact fI rfl | exact rfl))))
      (apply wlp; exact pv_add rfl rfl; exact int_eq (i64_in (by omega) (by omega)))
      (repeat (first | (with_reducible first | apply wpl_nil | apply thenQ_n) | (apply wlp; apply pv_assign; exact fI rfl)))
      refine ⟨i + 1, v4, put_self (put_self (Same.eq (by repeat (first | exact Same.hav | exact Same.refl | refine Same.put rfl ?_ | refine Same.havs rfl ?_))) rfl) rfl, ⟨by omega, hv4, all_take_succ hlt hall h3, ?_⟩, by omega⟩
      have e : ((d.places.take (i + 1)).map (·.1)).flatMap eS = ((d.places.take i).map (·.1)).flatMap eS ++ [.string d.places[i].1] := take_snoc_flat d.places (·.1) eS i hlt
      simp only [e]
      exact hp
  · have e : i = d.places.length := by omega
    subst e
    rw [List.take_length] at hall hp
    have h2' : ¬ d.places.all (fun p => isWordB p.1) = false := by rw [hall]; simp
    (repeat (first | (with_reducible first | apply WP_seq | apply WP_block | apply WP_region | apply wpl_nil | apply thenQ_n | apply thenQ_exit | apply WP_exit) | ((with_reducible apply inBlk_same); exact rfl) | (apply wlp; apply pv_assign; exact fI rfl)))
    refine WP_loopS [2, 5, 35, 36, 37, 38, 39, 40, 41, 42, 43, 44, 45, 46, 47, 48, 49] (fun (i : Nat) F => F.put 5 (.int .i64 i))
      (fun i w' => i ≤ d.places.length ∧ (d.places.take i).all placeOk = true ∧ Hp w [] w' [ownE v3 9 1 d.places.length ((d.places.map (·.1)).flatMap eS), blk db 13 (frOf [.string d.name, .int .i64 d.kind, .int .i64 d.round, .int .i64 d.price, .int .i64 d.pool, .int .i64 d.pick, .slice a.sT d.tiers.length a.cT, .bool d.roll, .slice a.sP d.places.length a.cP, .int .i64 d.cls, .int .i64 d.size, .slice a.sQ d.quotas.length a.cQ, .slice a.sB d.barred.length a.cB]) 30])
      (fun i => d.places.length - i) 0 (put_self (Same.eq .refl) rfl) ⟨Nat.zero_le _, by simp, hp⟩ ?_
    clear hp
    rintro u2 i w7 ⟨hi, hall2, hp⟩
    (repeat (first | (with_reducible first | apply WP_seq | apply WP_region | apply wpl_nil | apply thenQ_n) | (apply wlp; ((first | apply pv_move | apply pf_field | (apply pf_load; exact rfl) | (apply pf_len; exact rfl) | apply pv_lss) <;> (first | exact rfl | exact hp.cell 1 rfl rfl)); (first | exact fI rfl | exact fB rfl | exact fP rfl | exact fS rfl))))
    refine WP_cond_d rfl (fun h => ?_) (fun h => ?_)
    · have hlt : i < d.places.length := by omega
      obtain ⟨b0, o0, hs0, hc0⟩ := hd.places.base (by omega)
      have hx := List.getElem?_eq_getElem hlt
      have hc1 := hc0 i _ hx 1 _ rfl
      (repeat (first | (with_reducible first | apply WP_seq | apply WP_block | apply WP_region | apply thenQ_n | apply WP_skip) | (apply wlp; ((first | apply pv_move | apply pf_field | (apply pf_load; exact rfl) | (apply pf_index; exact rfl)) <;> (first | exact rfl | assumption | exact hp.cell 1 rfl rfl | exact hp.old0 (by assumption))); (first | exact fI rfl | exact fP rfl | exact fS rfl))))
      (apply wls; exact st_call rfl ent31 rfl (c31 _ _ _ _))
      rintro _ w9 ⟨rfl, hk⟩
      have hp := hp.call hk
      (repeat (first | (with_reducible first | apply wpl_nil | apply thenQ_n) | (apply wlp; (apply pv_not <;> exact rfl); exact fB rfl)))
      refine WP_cond rfl (fun h2 => ?_) (fun h2 => ?_)
      · have h3 : placeOk d.places[i] = false := by
          rw [placeOk_eq]; simpa using h2
        (repeat (first | (with_reducible first | apply WP_seq | apply WP_region | apply wpl_nil | apply thenQ_n | apply thenQ_ret | apply inBlk_ret | apply WP_ret) | (apply wlp; exact pv_assign; exact rfl)))
        exact ret_tmp rfl rfl ⟨_, rfl, int_eq (Eq.symm ((if_neg h1).trans ((if_neg h2').trans (if_pos (all_false_of hlt h3))))), hp.keeps⟩
      · have h3 : placeOk d.places[i] = true := by
          rw [placeOk_eq]; simpa using h2
        (repeat (first | (with_reducible first | apply WP_region | apply thenQ_n | apply inBlk_n | apply WP_skip) | (apply wlp; apply pv_move; exact fI rfl)))
        (apply wlp; exact pv_add rfl rfl; exact int_eq (i64_in (by omega) (by omega)))
        (repeat (first | (with_reducible first | apply wpl_nil | apply thenQ_n) | (apply wlp; apply pv_assign; exact fI rfl)))
        exact ⟨i + 1, put_self (Same.eq (by repeat (first | exact Same.hav | exact Same.refl | refine Same.put rfl ?_ | refine Same.havs rfl ?_))) rfl, ⟨by omega, all_take_succ hlt hall2 h3, hp⟩, by omega⟩
    · have e : i = d.places.length := by omega
      subst e
      rw [List.take_length] at hall2
      have h3' : ¬ d.places.all placeOk = false := by rw [hall2]; simp
      obtain ⟨s3, c3, rfl⟩ := hv3.ex
      have hlm : d.places.length = (d.places.map (·.1)).length := by simp
      have hsl : SlAt w7 1 eS s3 (d.places.map (·.1)) := by
        exact own_SlAtN (i := 0) hp rfl hv3 hlm.symm (fun _ => rfl)
      (repeat (first | (with_reducible first | apply WP_seq | apply WP_region | apply thenQ_n | apply thenQ_exit | apply WP_exit) | ((with_reducible apply inBlk_same); exact rfl) | (apply wlp; apply pv_move; exact fS rfl)))
      have hc := c44 s3 c3 (d.places.map (·.1)) _ (by simp; omega) hsl
      rw [← hlm] at hc
      (apply wls; exact st_call rfl ent44 rfl hc)
      rintro _ w8 ⟨rfl, hk⟩
      have hp := hp.call hk
      (repeat (with_reducible first | apply wpl_nil | apply thenQ_n))
      refine WP_cond rfl (fun h2 => ?_) (fun h2 => ?_)
      · (repeat (first | (with_reducible first | apply WP_seq | apply WP_region | apply wpl_nil | apply thenQ_n | apply thenQ_ret | apply WP_ret) | (apply wlp; exact pv_assign; exact rfl)))
        exact ret_tmp rfl rfl ⟨_, rfl, int_eq (Eq.symm ((if_neg h1).trans ((if_neg h2').trans ((if_neg h3').trans (if_pos (by simpa using h2)))))), hp.keeps⟩
      · (repeat (first | (with_reducible first | apply WP_seq | apply WP_region | apply wpl_nil | apply thenQ_n | apply WP_ret | apply WP_skip) | (apply wlp; exact pv_assign; exact rfl)))
        exact ret_tmp rfl rfl ⟨_, rfl, int_eq (Eq.symm ((if_neg h1).trans ((if_neg h2').trans ((if_neg h3').trans (if_neg (by simpa using h2)))))), hp.keeps⟩

theorem c36 (d : Dr) (a : DrA) (w : World) (hd : DrAt w d a) (hsz : ∀ p ∈ d.quotas, p.1.size ≤ 9223372036854775807) : Ret Try.prog 36 [drV d a] w (fun v w' => v = .int .i64 (ckQuotas d) ∧ Keeps [] w w') := by
  refine Ret.of_WP Try.func36 rfl Try.ntmps36 rfl ?_
  have hp := Hp.start (M := []) (w := w)
  ((repeat (with_reducible first | apply WP_seq | apply WP_region)); apply wls; exact sbox13 hp rfl; rintro _ w1 ⟨db, rfl, hp⟩)
  (repeat (first | (with_reducible first | apply WP_seq | apply WP_region | apply wpl_nil | apply thenQ_n) | (apply wlp; ((first | apply pv_assign | apply pf_field | (apply pf_load; exact rfl) | (apply pf_len; exact rfl) | apply pv_gtr) <;> (first | exact rfl | exact hp.cell 0 rfl rfl)); (first | exact fI rfl | exact fB rfl | exact fP rfl | exact fS rfl))))
  refine WP_cond_d rfl (fun h => ?_) (fun h1 => ?_)
  · (repeat (first | (with_reducible first | apply WP_seq | apply WP_region | apply wpl_nil | apply thenQ_n | apply thenQ_ret | apply WP_ret) | (apply wlp; exact pv_assign; exact rfl)))
    exact ret_tmp rfl rfl ⟨_, rfl, int_eq (Eq.symm (if_pos h)), hp.keeps⟩
  have hn : d.quotas.length ≤ 12 := by omega
  (repeat (first | (with_reducible first | apply WP_seq | apply WP_block | apply WP_region | apply wpl_nil | apply thenQ_n | apply WP_skip) | (apply wlp; apply pv_assign; (first | exact fI rfl | exact fS rfl))))
  refine WP_loop2 [2, 3, 4, 10, 11, 12, 13, 14, 15, 16, 17, 18, 19, 20, 21, 22, 23, 24, 25, 26, 27, 28, 29, 30, 31, 32, 33] (fun (i : Nat) (v3 : Value) F => (F.put 3 v3).put 4 (.int .i64 i))
    (fun i v3 w' => i ≤ d.quotas.length ∧ SV v3 i ∧ (d.quotas.take i).all (fun p => isWordB p.1) = true ∧ Hp w [] w' [ownE v3 9 1 i (((d.quotas.take i).map (·.1)).flatMap eS), blk db 13 (frOf [.string d.name, .int .i64 d.kind, .int .i64 d.round, .int .i64 d.price, .int .i64 d.pool, .int .i64 d.pick, .slice a.sT d.tiers.length a.cT, .bool d.roll, .slice a.sP d.places.length a.cP, .int .i64 d.cls, .int .i64 d.size, .slice a.sQ d.quotas.length a.cQ, .slice a.sB d.barred.length a.cB]) 30])
    (fun i _ => d.quotas.length - i) 0 (.slice none 0 0) (put_self (put_self (Same.eq .refl) rfl) rfl) ⟨Nat.zero_le _, SV.nil, by simp, hp.addNil _⟩ ?_
  clear hp
  rintro u i v3 w3 ⟨hi, hv3, hall, hp⟩
  (repeat (first | (with_reducible first | apply WP_seq | apply WP_region | apply wpl_nil | apply thenQ_n) | (apply wlp; ((first | apply pv_move | apply pf_field | (apply pf_load; exact rfl) | (apply pf_len; exact rfl) | apply pv_lss) <;> (first | exact rfl | exact hp.cell 1 rfl rfl)); (first | exact fI rfl | exact fB rfl | exact fP rfl | exact fS rfl))))
  refine WP_cond_d rfl (fun h => ?_) (fun h => ?_)
  · have hlt : i < d.quotas.length := by omega
    obtain ⟨b0, o0, hs0, hc0⟩ := hd.quotas.base (by omega)
    have hx := List.getElem?_eq_getElem hlt
    have hc1 := hc0 i _ hx 0 _ rfl
    (repeat (first | (with_reducible first | apply WP_seq | apply WP_block | apply WP_region | apply thenQ_n | apply WP_skip) | (apply wlp; ((first | apply pv_move | apply pf_field | (apply pf_load; exact rfl) | (apply pf_index; exact rfl)) <;> (first | exact rfl | assumption | exact hp.cell 1 rfl rfl | exact hp.old0 (by assumption))); (first | exact fI rfl | exact fP rfl | exact fS rfl | exact fT rfl))))
    (apply wls; exact st_call rfl ent30 rfl (c30 _ _ (hsz _ (List.getElem_mem hlt))))
    rintro _ w4 ⟨rfl, hk⟩
    have hp := hp.call hk
    (repeat (first | (with_reducible first | apply wpl_nil | apply thenQ_n) | (apply wlp; (apply pv_not <;> exact rfl); exact fB rfl)))
    refine WP_cond rfl (fun h2 => ?_) (fun h2 => ?_)
    · have h3 : isWordB d.quotas[i].1 = false := by simpa using h2
      (repeat (first | (with_reducible first | apply WP_seq | apply WP_region | apply wpl_nil | apply thenQ_n | apply thenQ_ret | apply inBlk_ret | apply WP_ret) | (apply wlp; exact pv_assign; exact rfl)))
      exact ret_tmp rfl rfl ⟨_, rfl, int_eq (Eq.symm ((if_neg h1).trans (if_pos (all_false_of (p := fun p => isWordB p.1) hlt h3)))), hp.keeps⟩
    · have h3 : isWordB d.quotas[i].1 = true := by simpa using h2
      (repeat (first | (with_reducible first | apply WP_region | apply thenQ_n | apply WP_skip) | (apply wlp; ((first | apply pv_move | apply pf_field | (apply pf_load; exact rfl) | (apply pf_index; exact rfl)) <;> (first | exact rfl | assumption | exact hp.cell 1 rfl rfl | exact hp.old0 (by assumption))); (first | exact fI rfl | exact fP rfl | exact fS rfl | exact fT rfl | exact rfl))))
      (apply wls; exact sf_slice hp rfl rfl rfl rfl rfl rfl rfl; rintro _ w5 ⟨nb, rfl, hp⟩)
      (apply wls; exact sf_append (news := [.string d.quotas[i].1]) hp 1 rfl rfl rfl rfl rfl rfl rfl rfl hv3 (by rw [flatMap_len eS 1 (fun _ => rfl)]; simp; omega) rfl (blk_src hp 0 rfl) (by simp [oneV]) (by unfold maxLen; omega) (by omega); rintro v4 w6 ⟨hv4, hp⟩)
      have hp := Hp.tail hp
      (repeat (first | (with_reducible first | apply WP_region | apply wpl_nil | apply thenQ_n | apply inBlk_n) | (apply wlp; (first | apply pv_move | apply pv_assign); (first | exact fI rfl | exact rfl))))
      (apply wlp; exact pv_add rfl rfl; exact int_eq (i64_in (by omega) (by omega)))
      (repeat (first | (with_reducible first | apply wpl_nil | apply thenQ_n) | (apply wlp; apply pv_assign; exact fI rfl)))
      refine ⟨i + 1, v4, put_self (put_self (Same.eq (by repeat (first | exact Same.hav | exact Same.refl | refine Same.put rfl ?_ | refine Same.havs rfl ?_))) rfl) rfl, ⟨by omega, hv4, all_take_succ hlt hall h3, ?_⟩, by omega⟩
      have e : ((d.quotas.take (i + 1)).map (·.1)).flatMap eS = ((d.quotas.take i).map (·.1)).flatMap eS ++ [.string d.quotas[i].1] := take_snoc_flat d.quotas (·.1) eS i hlt
      simp only [e]
      exact hp
  · have e : i = d.quotas.length := by omega
    subst e
    rw [List.take_length] at hall hp
    have h2' : ¬ d.quotas.all (fun p => isWordB p.1) = false := by rw [hall]; simp
    (repeat (first | (with_reducible first | apply WP_seq | apply WP_block | apply WP_region | apply wpl_nil | apply thenQ_n | apply thenQ_exit | apply WP_exit) | ((with_reducible apply inBlk_same); exact rfl) | (apply wlp; apply pv_assign; exact fI rfl)))
    refine WP_loopS [2, 5, 34, 35, 36, 37, 38, 39, 40, 41, 42, 43, 44, 45, 46, 47, 48, 49, 50, 51, 52, 53, 54, 55, 56, 57, 58, 59, 60, 61, 62, 63, 64, 65] (fun (i : Nat) F => F.put 5 (.int .i64 i))
      (fun i w' => i ≤ d.quotas.length ∧ (d.quotas.take i).all (quotaOk d.size) = true ∧ Hp w [] w' [ownE v3 9 1 d.quotas.length ((d.quotas.map (·.1)).flatMap eS), blk db 13 (frOf [.string d.name, .int .i64 d.kind, .int .i64 d.round, .int .i64 d.price, .int .i64 d.pool, .int .i64 d.pick, .slice a.sT d.tiers.length a.cT, .bool d.roll, .slice a.sP d.places.length a.cP, .int .i64 d.cls, .int .i64 d.size, .slice a.sQ d.quotas.length a.cQ, .slice a.sB d.barred.length a.cB]) 30])
      (fun i => d.quotas.length - i) 0 (put_self (Same.eq .refl) rfl) ⟨Nat.zero_le _, by simp, hp⟩ ?_
    clear hp
    rintro u2 i w7 ⟨hi, hall2, hp⟩
    (repeat (first | (with_reducible first | apply WP_seq | apply WP_region | apply wpl_nil | apply thenQ_n) | (apply wlp; ((first | apply pv_move | apply pf_field | (apply pf_load; exact rfl) | (apply pf_len; exact rfl) | apply pv_lss) <;> (first | exact rfl | exact hp.cell 1 rfl rfl)); (first | exact fI rfl | exact fB rfl | exact fP rfl | exact fS rfl))))
    refine WP_cond_d rfl (fun h => ?_) (fun h => ?_)
    · have hlt : i < d.quotas.length := by omega
      obtain ⟨b0, o0, hs0, hc0⟩ := hd.quotas.base (by omega)
      have hx := List.getElem?_eq_getElem hlt
      have hc1 := hc0 i _ hx 1 _ rfl
      have hc2 := hc0 i _ hx 2 _ rfl
      (repeat (with_reducible first | apply WP_seq | apply WP_block | apply thenQ_n | apply WP_skip))
      refine WP_draw mixed (by kernel_rfl) (fun w' => Hp _ _ w' _) hp.drew ?_
      have hp := hp.drew
      (repeat ((apply wdp; exact rfl); (intro w hp; intros; ((first | apply pv_move | apply pf_field | (apply pf_load; exact rfl) | (apply pf_index; exact rfl)) <;> (first | exact rfl | assumption | exact hp.cell 1 rfl rfl | exact hp.old0 (by assumption)))); (intros; (first | exact fI rfl | exact fP rfl | exact fS rfl))))
      (apply wds; exact rfl; exact st_call rfl ent31 rfl (c31 _ _ _ _))
      rintro _ w9 ⟨rfl, hk⟩
      have hp := hp.call hk
      refine ⟨hp, ?_⟩
      (repeat ((first | (apply wdp; exact rfl) | (apply wdg; exact rfl; exact rfl; exact rfl)); (intro w hp; intros; ((first | apply pv_move | apply pf_field | (apply pf_load; exact rfl) | exact pv_or rfl rfl rfl | apply pv_gtr | apply pv_not | (apply pf_index; exact rfl)) <;> (first | exact rfl | exact ev_sel rfl (by assumption) | assumption | exact hp.cell 1 rfl rfl | exact hp.old0 (by assumption)))); (intros; (first | exact fI rfl | exact fB rfl | exact fP rfl | exact fS rfl))))
      refine wpd_nil ?_
      (repeat with_reducible apply thenQ_n)
      refine WP_cond rfl (fun h2 => ?_) (fun h2 => ?_)
      · have h3 : (quotaOk d.size) d.quotas[i] = false := by
          rw [quotaOk_eq, Bool.and_eq_false_iff]; simpa using h2
        (repeat (first | (with_reducible first | apply WP_seq | apply WP_region | apply wpl_nil | apply thenQ_n | apply thenQ_ret | apply inBlk_ret | apply WP_ret) | (apply wlp; exact pv_assign; exact rfl)))
        exact ret_tmp rfl rfl ⟨_, rfl, int_eq (Eq.symm ((if_neg h1).trans ((if_neg h2').trans (if_pos (all_false_of hlt h3))))), hp.keeps⟩
      · have h3 : (quotaOk d.size) d.quotas[i] = true := by
          rw [quotaOk_eq]; simpa using h2
        (repeat (first | (with_reducible first | apply WP_region | apply thenQ_n | apply inBlk_n | apply WP_skip) | (apply wlp; apply pv_move; exact fI rfl)))
        (apply wlp; exact pv_add rfl rfl; exact int_eq (i64_in (by omega) (by omega)))
        (repeat (first | (with_reducible first | apply wpl_nil | apply thenQ_n) | (apply wlp; apply pv_assign; exact fI rfl)))
        exact ⟨i + 1, put_self (Same.eq (by repeat (first | exact Same.hav | exact Same.refl | refine Same.put rfl ?_ | refine Same.havs rfl ?_))) rfl, ⟨by omega, all_take_succ hlt hall2 h3, hp⟩, by omega⟩
    · have e : i = d.quotas.length := by omega
      subst e
      rw [List.take_length] at hall2
      have h3' : ¬ d.quotas.all (quotaOk d.size) = false := by rw [hall2]; simp
      obtain ⟨s3, c3, rfl⟩ := hv3.ex
      have hlm : d.quotas.length = (d.quotas.map (·.1)).length := by simp
      have hsl : SlAt w7 1 eS s3 (d.quotas.map (·.1)) := by
        exact own_SlAtN (i := 0) hp rfl hv3 hlm.symm (fun _ => rfl)
      (repeat (first | (with_reducible first | apply WP_seq | apply WP_region | apply thenQ_n | apply thenQ_exit | apply WP_exit) | ((with_reducible apply inBlk_same); exact rfl) | (apply wlp; apply pv_move; exact fS rfl)))
      have hc := c44 s3 c3 (d.quotas.map (·.1)) _ (by simp; omega) hsl
      rw [← hlm] at hc
      (apply wls; exact st_call rfl ent44 rfl hc)
      rintro _ w8 ⟨rfl, hk⟩
      have hp := hp.call hk
      (repeat (with_reducible first | apply wpl_nil | apply thenQ_n))
      refine WP_cond rfl (fun h2 => ?_) (fun h2 => ?_)
      · (repeat (first | (with_reducible first | apply WP_seq | apply WP_region | apply wpl_nil | apply thenQ_n | apply thenQ_ret | apply WP_ret) | (apply wlp; exact pv_assign; exact rfl)))
        exact ret_tmp rfl rfl ⟨_, rfl, int_eq (Eq.symm ((if_neg h1).trans ((if_neg h2').trans ((if_neg h3').trans (if_pos (by simpa using h2)))))), hp.keeps⟩
      · (repeat (first | (with_reducible first | apply WP_seq | apply WP_region | apply wpl_nil | apply thenQ_n | apply WP_ret | apply WP_skip) | (apply wlp; exact pv_assign; exact rfl)))
        exact ret_tmp rfl rfl ⟨_, rfl, int_eq (Eq.symm ((if_neg h1).trans ((if_neg h2').trans ((if_neg h3').trans (if_neg (by simpa using h2)))))), hp.keeps⟩
end Go.Proofs.Ytgephdcapajaiaa
