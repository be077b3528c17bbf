/- odds: Payouts; conditions: the lists lie in memory. -/
import Derived.Test.YteklkjnhefnimaaDoorEh
namespace Go.Proofs.YteklkjnhefnimaaDoor
open Go.Eng Go.Dig

/-- plain: what one winner of a tier is paid -/
def prt (pot : Int) (ms : List Int) (t : Int × Int) : Int := ((pot * t.2).tdiv 100).tdiv (ms.count t.1)
/-- what is paid for a match, and all that is paid -/
def pfS (pot : Int) (ms : List Int) : List (Int × Int) → Int → Int
  | [], _ => 0
  | t :: l, m => (if m = t.1 then prt pot ms t else 0) + pfS pot ms l m
def lfS (pot : Int) (ms : List Int) : List (Int × Int) → Int
  | [] => 0
  | t :: l => (ms.count t.1 : Int) * prt pot ms t + lfS pot ms l
theorem pfS_app (pot : Int) (ms : List Int) (l : List (Int × Int)) (t : Int × Int) (m : Int) : pfS pot ms (l ++ [t]) m = pfS pot ms l m + (if m = t.1 then prt pot ms t else 0) := by
  induction l with
  | nil => simp [pfS]
  | cons u l ih => simp only [List.cons_append, pfS, ih]; omega
theorem lfS_app (pot : Int) (ms : List Int) (l : List (Int × Int)) (t : Int × Int) : lfS pot ms (l ++ [t]) = lfS pot ms l + (ms.count t.1 : Int) * prt pot ms t := by
  induction l with
  | nil => simp [lfS]
  | cons u l ih => simp only [List.cons_append, lfS, ih]; omega
theorem pot_mul {pot p : Int} (h : 0 ≤ pot ∧ pot ≤ 1000000000000) (hp : 0 ≤ p ∧ p ≤ 100) : 0 ≤ pot * p ∧ pot * p ≤ 100000000000000 := by
  refine ⟨Int.mul_nonneg h.1 hp.1, ?_⟩
  have h1 : pot * p ≤ pot * 100 := Int.mul_le_mul_of_nonneg_left hp.2 h.1
  omega
theorem tdiv_bd {a b c : Int} (ha : 0 ≤ a) (hc : a ≤ c) (hb : 0 ≤ b) : 0 ≤ a.tdiv b ∧ a.tdiv b ≤ c := by
  refine ⟨Int.tdiv_nonneg ha hb, Int.le_trans ?_ hc⟩
  rw [Int.tdiv_eq_ediv_of_nonneg ha]
  exact Int.ediv_le_self _ ha
theorem prt_bd {pot : Int} {ms : List Int} {t : Int × Int} (h : 0 ≤ pot ∧ pot ≤ 1000000000000) (ht : okT t = true) : 0 ≤ prt pot ms t ∧ prt pot ms t ≤ 1000000000000 := by
  have ht2 : 0 ≤ t.2 ∧ t.2 ≤ 100 := by simpa [okT] using ht
  have h1 := pot_mul h ht2
  have h2 : 0 ≤ (pot * t.2).tdiv 100 ∧ (pot * t.2).tdiv 100 ≤ 1000000000000 := by
    rw [Int.tdiv_eq_ediv_of_nonneg h1.1]
    omega
  exact tdiv_bd h2.1 h2.2 (Int.natCast_nonneg _)
theorem pfS_bd {pot : Int} {ms : List Int} {l : List (Int × Int)} {m : Int} (h : 0 ≤ pot ∧ pot ≤ 1000000000000) (ht : l.all okT = true) : 0 ≤ pfS pot ms l m ∧ pfS pot ms l m ≤ 1000000000000 * l.length := by
  induction l with
  | nil => simp [pfS]
  | cons t l ih =>
    simp only [List.all_cons, Bool.and_eq_true] at ht
    have h1 := prt_bd (ms := ms) h ht.1
    have h2 := ih ht.2
    simp only [pfS, List.length_cons]
    split <;> omega
theorem cnt_mul {k : Nat} {x : Int} (hk : k ≤ 2000) (hx : 0 ≤ x ∧ x ≤ 1000000000000) : 0 ≤ (k : Int) * x ∧ (k : Int) * x ≤ 2000000000000000 := by
  refine ⟨Int.mul_nonneg (by omega) hx.1, ?_⟩
  have h1 : (k : Int) * x ≤ 2000 * x := Int.mul_le_mul_of_nonneg_right (by omega) hx.1
  omega
theorem lfS_bd {pot : Int} {ms : List Int} {l : List (Int × Int)} (h : 0 ≤ pot ∧ pot ≤ 1000000000000) (ht : l.all okT = true) (hm : ms.length ≤ 2000) : 0 ≤ lfS pot ms l ∧ lfS pot ms l ≤ 2000000000000000 * l.length := by
  induction l with
  | nil => simp [lfS]
  | cons t l ih =>
    simp only [List.all_cons, Bool.and_eq_true] at ht
    have h1 := cnt_mul (k := ms.count t.1) (Nat.le_trans List.count_le_length hm) (prt_bd (ms := ms) h ht.1)
    have h2 := ih ht.2
    simp only [lfS, List.length_cons]
    omega
theorem count_step {ms : List Int} {j : Nat} {x m : Int} (h : ms.take (j + 1) = ms.take j ++ [x]) : (ms.take (j + 1)).count m = (ms.take j).count m + (if x = m then 1 else 0) := by
  rw [h, List.count_append, List.count_singleton]
  by_cases hx : x = m <;> simp [hx]
theorem count_mul_succ (k : Nat) (x : Int) : ((k + 1 : Nat) : Int) * x = (k : Int) * x + x := by
  rw [Int.natCast_add, Int.add_mul]
  simp

attribute [local irreducible] PV StepF wpl wpd WP Ret
attribute [local irreducible] Fit RB prt

theorem c28f (nm : ByteArray) (kind round price pool pick pot : Int) (s s2 : Option Addr) (c c2 : Nat) (l : List (Int × Int)) (ms : List Int) (w : World) (hs : SlAt w 2 eT s l) (hl : l.length ≤ 9223372036854775806)
    (hB : plB kind pool pick l = false ∨ pot < 0 ∨ 1000000000000 < pot ∨ 2000 < ms.length) :
    Ret Tryd.prog 28 [.agg (dw nm kind round price pool pick s l.length c).toArray, .int .i64 pot, .slice s2 ms.length c2] w (fun v w' => v = .tuple #[.slice none 0 0, .int .i64 0, .bool false] ∧ Keeps [] w w') := by
  refine Ret.of_WP Tryd.func28 rfl Tryd.ntmps28 rfl ?_
  have hp := Hp.start (M := []) (w := w)
  (repeat (first | (with_reducible first | apply WP_seq | apply WP_region | apply wpl_nil | apply thenQ_n) | (apply wlp; ((first | apply pv_assign | (apply pf_loadb; exact rfl)) <;> (first | exact rfl | exact hp.agg_blk 0 rfl rfl)); (first | exact fI rfl | exact fB rfl | exact fS rfl | exact fA13 rfl)) | (apply wls; exact sbox13 hp rfl; rintro _ w ⟨b, rfl, hp⟩)))
  (apply wls; exact st_call rfl ent57 rfl (c57 nm kind round price pool pick s c l _ (hs.keep0 hp.keeps) hl); rintro _ w1 ⟨rfl, hk⟩; have hp := hp.call hk)
  (repeat (first | (with_reducible first | apply wpl_nil | apply thenQ_n) | ((first | apply wlp | (apply wlg; exact rfl; exact rfl)); (intros; ((first | apply pv_move | (apply pf_len; exact rfl) | exact pv_or rfl rfl rfl | apply pv_lss | apply pv_gtr | apply pv_not) <;> (first | exact rfl | exact ev_sel rfl (by assumption)))); (intros; (first | exact fI rfl | exact fB rfl | exact fS rfl)))))
  refine WP_cond rfl (fun _ => ?_) (fun h => ?_)
  · (repeat (first | (with_reducible first | apply WP_seq | apply WP_region | apply wpl_nil | apply thenQ_n | apply thenQ_ret | apply WP_ret) | (apply wlp; apply pv_assign; (first | exact fI rfl | exact fB rfl | exact fS rfl))))
    exact ret_tmp3 rfl rfl rfl rfl ⟨_, rfl, rfl, hp.keeps⟩
  · exfalso
    simp at h
    rcases hB with hB | hB | hB | hB
    · rw [hB] at h
      simp at h
    · omega
    · omega
    · omega
theorem c28t (nm : ByteArray) (kind round price pool pick pot : Int) (s s2 : Option Addr) (c c2 : Nat) (l : List (Int × Int)) (ms : List Int) (w : World) (hs : SlAt w 2 eT s l) (hs2 : SlAt w 1 eI s2 ms) (hl : l.length ≤ 9223372036854775806)
    (hB : plB kind pool pick l = true) (hpot : 0 ≤ pot ∧ pot ≤ 1000000000000) (hms : ms.length ≤ 2000) :
    Ret Tryd.prog 28 [.agg (dw nm kind round price pool pick s l.length c).toArray, .int .i64 pot, .slice s2 ms.length c2] w (fun v w' => ∃ g, v = .tuple #[.slice (some ⟨g, 0, none⟩) ms.length ms.length, .int .i64 (pot - lfS pot ms l), .bool true] ∧ SVL (some ⟨g, 0, none⟩) ms.length (ms.map (pfS pot ms l)) ∧ Hp w [] w' [ownL eI 3 1 (some ⟨g, 0, none⟩) ms.length (ms.map (pfS pot ms l))]) := by
  have h1 : l.length ≤ 12 ∧ l.all okT = true := by
    unfold plB at hB
    simp only [Bool.and_eq_true, decide_eq_true_eq] at hB
    exact ⟨hB.2.1, hB.2.2.1⟩
  refine Ret.of_WP Tryd.func28 rfl Tryd.ntmps28 rfl ?_
  have hp := Hp.start (M := []) (w := w)
  (repeat (with_reducible first | apply WP_seq | apply WP_region))
  (apply wls; exact sbox13 hp rfl; rintro _ w1 ⟨bd, rfl, hp⟩)
  (repeat (first | (with_reducible first | apply WP_seq | apply WP_region | apply wpl_nil | apply thenQ_n) | (apply wlp; ((first | apply pv_assign | (apply pf_loadb; exact rfl)) <;> (first | exact rfl | exact hp.agg_blk 0 rfl rfl)); (first | exact fI rfl | exact fB rfl | exact fS rfl | exact fA13 rfl))))
  (apply wls; exact st_call rfl ent57 rfl (c57 nm kind round price pool pick s c l _ (hs.keep0 hp.keeps) hl); rintro _ w2 ⟨rfl, hk⟩; have hp := hp.call hk)
  rw [hB]
  (repeat (first | (with_reducible first | apply wpl_nil | apply thenQ_n) | ((first | apply wlp | (apply wlg; exact rfl; exact rfl)); (intros; ((first | apply pv_move | (apply pf_len; exact rfl) | exact pv_orF rfl rfl | exact pv_or rfl rfl rfl | apply pv_lss | apply pv_gtr | apply pv_not) <;> (first | exact rfl | exact ev_sel rfl (by assumption)))); (intros; (first | exact fI rfl | exact fB rfl | exact fS rfl)))))
  refine WP_cond rfl (fun h => ?_) (fun _ => ?_)
  · exfalso
    simp at h
    omega
  (repeat (first | (with_reducible first | apply WP_seq | apply WP_region | apply thenQ_n | apply WP_skip) | (apply wlp; ((first | apply pv_move | (apply pf_len; exact rfl)) <;> exact rfl); (first | exact fI rfl | exact fS rfl))))
  (apply wls; exact sf_make eI 0 hp rfl rfl rfl rfl rfl rfl rfl (by omega) rfl; rintro _ w3 ⟨g, rfl, hv, hp⟩)
  (repeat (first | (with_reducible first | apply WP_seq | apply WP_block | apply WP_region | apply wpl_nil | apply thenQ_n) | (apply wlp; ((first | apply pv_move | apply pv_assign | apply pf_field | (apply pf_load; exact rfl) | (apply pf_len; exact rfl)) <;> (first | exact rfl | exact hp.cell 1 rfl rfl)); (first | exact fI rfl | exact fP rfl | exact fS rfl))))
  refine WP_loop2 [7, 10, 11, 13, 14, 15, 16, 40, 41, 42, 43, 44, 45, 46, 47, 48, 49, 50, 51, 52, 53, 54, 55, 56, 57, 58, 59, 60, 61, 62, 63, 64, 65, 66, 67, 68, 69, 70, 71, 72, 73, 74, 75, 76, 77, 78, 79, 80, 81, 82, 83, 84, 85, 86] (fun (i : Nat) (_z : List Int) F => (F.put 40 (.int .i64 (i : Int))).put 7 (.int .i64 (pot - lfS pot ms (l.take i))))
    (fun i z w' => i ≤ l.length ∧ z.length = ms.length ∧ (∀ (q : Nat) (x : Int), ms[q]? = some x → z[q]? = some (pfS pot ms (l.take i) x)) ∧ SVL (some ⟨g, 0, none⟩) ms.length z ∧ Hp w [] w' [ownL eI 3 1 (some ⟨g, 0, none⟩) ms.length z, blk bd 13 (frOf (dw nm kind round price pool pick s l.length c)) 50]) (fun i _ => l.length - i) 0 (List.replicate ms.length 0)
    (put_self (put_self (Same.eq .refl) rfl) (int_eq (by simp [lfS]))) ⟨Nat.zero_le _, by simp, ?_, hv, hp⟩ ?_
  · intro q x hq
    have hq2 := (List.getElem?_eq_some_iff.1 hq).1
    rw [List.getElem?_replicate, if_pos hq2]
    rfl
  clear hp hv
  rintro u i z w4 ⟨hi, hzl, hz, hv, hp⟩
  (repeat (first | (with_reducible first | apply WP_seq | apply WP_region | apply wpl_nil | apply thenQ_n) | (apply wlp; (apply pv_lss <;> exact rfl); exact fB rfl)))
  refine WP_cond_d rfl (fun h2 => ?_) (fun h2 => ?_)
  · have hlt : i < l.length := by omega
    obtain ⟨b0, o0, hs0, hc0⟩ := hs.base (by omega)
    have hgi := List.getElem?_eq_getElem hlt
    have hci := hc0 i _ hgi
    have htk := List.take_succ_eq_append_getElem hlt
    have htok : okT l[i] = true := List.all_eq_true.1 h1.2 _ (List.getElem_mem hlt)
    generalize l[i] = t at hci htk htok
    obtain ⟨tm, tp⟩ := t
    have htp : 0 ≤ tp ∧ tp ≤ 100 := by simpa [okT] using htok
    have hall : (l.take i).all okT = true := List.all_eq_true.2 fun x hx => List.all_eq_true.1 h1.2 x (List.mem_of_mem_take hx)
    have hlb := lfS_bd (ms := ms) hpot hall hms
    have hpb := fun m => pfS_bd (ms := ms) (m := m) hpot hall
    rw [List.length_take, Nat.min_eq_left (by omega)] at hlb hpb
    have hprt := prt_bd (ms := ms) hpot htok
    (repeat (first | (with_reducible first | apply WP_seq | apply WP_block | apply WP_region | apply thenQ_n | apply WP_skip) | (apply wlp; ((first | (apply pf_loadb; exact rfl) | (apply pf_index; exact rfl)) <;> (first | exact rfl | assumption)); exact fP rfl)))
    (apply wlp; exact pf_loads (vs := [.int .i64 tm, .int .i64 tp]) rfl rfl rfl rfl (fun j v hv => hp.old0 (hci j v hv)); exact fA2 rfl)
    (apply wls; exact salloc2 hp (zeroTy_ok rfl); rintro _ w5 ⟨bt, rfl, hp⟩)
    (apply wls0; exact sstore2 hp 0 rfl rfl rfl rfl (sizeTy_ok rfl) rfl; rintro _ w6 ⟨rfl, hp⟩)
    have hp := hp.norm 0 [.int .i64 tm, .int .i64 tp] rfl rfl
    have hp : Hp w [] w6 [blk bt 2 (frOf [.int .i64 tm, .int .i64 tp]) 57, ownL eI 3 1 (some ⟨g, 0, none⟩) ms.length z, blk bd 13 (frOf (dw nm kind round price pool pick s l.length c)) 50] := hp
    (repeat (first | (with_reducible first | apply WP_seq | apply WP_block | apply WP_region | apply wpl_nil | apply thenQ_n) | (apply wlp; ((first | apply pv_move | apply pv_assign | (apply pf_len; exact rfl)) <;> exact rfl); (first | exact fI rfl | exact fS rfl))))
    refine WP_loopS [11, 13, 46, 47, 48, 49, 50, 51, 52, 53, 54, 55, 56] (fun (j : Nat) F => (F.put 46 (.int .i64 (j : Int))).put 11 (.int .i64 ((ms.take j).count tm : Int)))
      (fun j w' => j ≤ ms.length ∧ Hp w [] w' [blk bt 2 (frOf [.int .i64 tm, .int .i64 tp]) 57, ownL eI 3 1 (some ⟨g, 0, none⟩) ms.length z, blk bd 13 (frOf (dw nm kind round price pool pick s l.length c)) 50]) (fun j => ms.length - j) 0 (put_self (put_self (Same.eq .refl) rfl) rfl) ⟨Nat.zero_le _, hp⟩ ?_
    clear hp
    rintro u2 j w7 ⟨hj, hp⟩
    (repeat (first | (with_reducible first | apply WP_seq | apply WP_region | apply wpl_nil | apply thenQ_n) | (apply wlp; (apply pv_lss <;> exact rfl); exact fB rfl)))
    refine WP_cond_d rfl (fun h3 => ?_) (fun h3 => ?_)
    · have hltj : j < ms.length := by omega
      obtain ⟨b1, o1, hs1, hc1⟩ := hs2.base (by omega)
      have hcj := hc1 j _ (List.getElem?_eq_getElem hltj) 0 _ rfl
      have hstep := count_step (m := tm) (List.take_succ_eq_append_getElem hltj)
      have hcle : (ms.take j).count tm ≤ 2000 := Nat.le_trans List.count_le_length (by rw [List.length_take]; omega)
      generalize ms[j] = x at hcj hstep
      (repeat (first | (with_reducible first | apply WP_seq | apply WP_block | apply WP_region | apply wpl_nil | apply thenQ_n | apply WP_skip) | (apply wlp; ((first | apply pv_move | apply pv_assign | apply pf_field | (apply pf_load; exact rfl) | (apply pv_eql; (first | exact rfl | exact ev_sel rfl (by assumption))) | (apply pf_index; exact rfl)) <;> (first | exact rfl | assumption | exact hp.cell 0 rfl rfl | exact hp.old0 (by assumption))); (first | exact fI rfl | exact fB rfl | exact fP rfl))))
      refine WP_cond_d rfl (fun h4 => ?_) (fun h4 => ?_)
      · rw [if_pos h4] at hstep
        (repeat (first | with_reducible apply WP_region | (apply wlp; apply pv_move; exact fI rfl)))
        (apply wlp; exact pv_add rfl rfl; exact int_eq (i64_in (by omega) (by omega)))
        (repeat (first | (with_reducible first | apply WP_region | apply wpl_nil | apply thenQ_n | apply inBlk_n) | (apply wlp; apply pv_assign; exact fI rfl)))
        (apply wlp; exact pv_add rfl rfl; exact int_eq (i64_in (by omega) (by omega)))
        (repeat (first | (with_reducible first | apply wpl_nil | apply thenQ_n) | (apply wlp; apply pv_move; exact fI rfl)))
        exact ⟨j + 1, put_self (put_self (Same.eq (by repeat (first | exact Same.hav | exact Same.refl | refine Same.put rfl ?_ | refine Same.havs rfl ?_))) rfl) (int_eq (by rw [hstep]; rfl)), ⟨by omega, hp⟩, by omega⟩
      · rw [if_neg h4] at hstep
        (repeat (with_reducible first | apply WP_region | apply thenQ_n | apply inBlk_n | apply WP_skip))
        (apply wlp; exact pv_add rfl rfl; exact int_eq (i64_in (by omega) (by omega)))
        (repeat (first | (with_reducible first | apply wpl_nil | apply thenQ_n) | (apply wlp; apply pv_move; exact fI rfl)))
        exact ⟨j + 1, put_self (put_self (Same.eq (by repeat (first | exact Same.hav | exact Same.refl | refine Same.put rfl ?_ | refine Same.havs rfl ?_))) rfl) (int_eq (by rw [hstep]; rfl)), ⟨by omega, hp⟩, by omega⟩
    · obtain rfl : j = ms.length := by omega
      rw [List.take_length]
      (repeat (first | (with_reducible first | apply WP_seq | apply WP_block | apply WP_region | apply wpl_nil | apply thenQ_n | apply thenQ_exit | apply WP_exit) | ((with_reducible apply inBlk_same); exact rfl) | (apply wlp; ((first | apply pv_move | (apply pf_len; exact rfl)) <;> exact rfl); (first | exact fI rfl | exact fS rfl))))
      refine WP_loop2 [7, 14, 15, 16, 59, 60, 61, 62, 63, 64, 65, 66, 67, 68, 69, 70, 71, 72, 73, 74, 75, 76, 77, 78, 79, 80, 81, 82, 83, 84, 85] (fun (j : Nat) (_z : List Int) F => (F.put 59 (.int .i64 (j : Int))).put 7 (.int .i64 (pot - lfS pot ms (l.take i) - ((ms.take j).count tm : Int) * prt pot ms (tm, tp))))
        (fun j z w' => j ≤ ms.length ∧ z.length = ms.length ∧ (∀ (q : Nat) (x : Int), ms[q]? = some x → z[q]? = some (pfS pot ms (l.take (if q < j then i + 1 else i)) x)) ∧ SVL (some ⟨g, 0, none⟩) ms.length z ∧ Hp w [] w' [blk bt 2 (frOf [.int .i64 tm, .int .i64 tp]) 57, ownL eI 3 1 (some ⟨g, 0, none⟩) ms.length z, blk bd 13 (frOf (dw nm kind round price pool pick s l.length c)) 50]) (fun j _ => ms.length - j) 0 z
        (put_self (put_self (Same.eq .refl) rfl) (int_eq (by simp))) ⟨Nat.zero_le _, hzl, by simpa using hz, hv, hp⟩ ?_
      clear hp hv hz hzl
      rintro u3 j z w8 ⟨hj, hzl, hz, hv, hp⟩
      (repeat (first | (with_reducible first | apply WP_seq | apply WP_region | apply wpl_nil | apply thenQ_n) | (apply wlp; (apply pv_lss <;> exact rfl); exact fB rfl)))
      refine WP_cond_d rfl (fun h3 => ?_) (fun h3 => ?_)
      · have hltj : j < ms.length := by omega
        have hjz : j < z.length := by omega
        obtain ⟨b1, o1, hs1, hc1⟩ := hs2.base (by omega)
        have hgj := List.getElem?_eq_getElem hltj
        have hcj := hc1 j _ hgj 0 _ rfl
        have hstep := count_step (m := tm) (List.take_succ_eq_append_getElem hltj)
        have hcle : (ms.take j).count tm ≤ 2000 := Nat.le_trans List.count_le_length (by rw [List.length_take]; omega)
        have hmem : ms[j] = tm → ms.count tm ≠ 0 := by
          intro h
          have : tm ∈ ms := by rw [← h]; exact List.getElem_mem hltj
          have := List.count_pos_iff.2 this
          omega
        generalize ms[j] = x at hcj hstep hgj hmem
        have hzj := hz j x hgj
        rw [if_neg (by omega)] at hzj
        have hcz := own_elem hp 1 rfl hv (fun _ => rfl) hzj 0 _ rfl
        have hcz : w8.cell? ⟨g, 0 + j * 1, none⟩ = some (.int .i64 (pfS pot ms (l.take i) x)) := hcz
        have hpx := hpb x
        have hcp := cnt_mul hcle hprt
        have hpm := pot_mul hpot htp
        have hcm := count_mul_succ ((ms.take j).count tm) (prt pot ms (tm, tp))
        have hnext : ∀ (y : Int), y = pfS pot ms (l.take (i + 1)) x → ∀ (q : Nat) (x' : Int), ms[q]? = some x' → (z.set j y)[q]? = some (pfS pot ms (l.take (if q < j + 1 then i + 1 else i)) x') := by
          intro y hy q x' hq
          rw [List.getElem?_set]
          by_cases hqj : j = q
          · subst hqj
            rw [if_pos rfl, if_pos hjz, if_pos (by omega), hy]
            rw [hgj] at hq
            cases hq
            rfl
          · rw [if_neg hqj, hz q x' hq]
            by_cases hq2 : q < j
            · rw [if_pos hq2, if_pos (by omega)]
            · rw [if_neg hq2, if_neg (by omega)]
        have hpf := pfS_app pot ms (l.take i) (tm, tp) x
        rw [← htk] at hpf
        (repeat (first | (with_reducible first | apply WP_seq | apply WP_block | apply WP_region | apply wpl_nil | apply thenQ_n | apply WP_skip) | (apply wlp; ((first | apply pv_move | apply pv_assign | apply pf_field | (apply pf_load; exact rfl) | (apply pv_eql; (first | exact rfl | exact ev_sel rfl (by assumption))) | (apply pf_index; exact rfl)) <;> (first | exact rfl | assumption | exact hp.cell 0 rfl rfl | exact hp.old0 (by assumption))); (first | exact fI rfl | exact fB rfl | exact fP rfl))))
        refine WP_cond_d rfl (fun h4 => ?_) (fun h4 => ?_)
        · rw [if_pos h4] at hstep
          rw [if_pos h4] at hpf
          have hc0 : ms.count tm ≠ 0 := hmem h4
          have hq1 : (pot * tp).tdiv 100 = (pot * tp) / 100 := Int.tdiv_eq_ediv_of_nonneg hpm.1
          have hqe : prt pot ms (tm, tp) = ((pot * tp).tdiv 100).tdiv (ms.count tm) := by unfold prt; rfl
          (repeat (first | (with_reducible first | apply WP_seq | apply WP_region) | (apply wlp; ((first | apply pv_move | apply pf_field | (apply pf_load; exact rfl)) <;> (first | exact rfl | exact hp.cell 0 rfl rfl)); (first | exact fI rfl | exact fP rfl))))
          (apply wlp; exact pv_mul rfl rfl; exact int_eq (i64_in (by omega) (by omega)))
          (apply wlp; exact pv_quo rfl rfl (by decide); exact int_eq (b := (pot * tp).tdiv 100) (i64_in (by omega) (by omega)))
          (repeat (apply wlp; apply pv_move; exact fI rfl))
          (apply wlp; exact pv_quo rfl rfl (by omega); exact int_eq (b := prt pot ms (tm, tp)) (by rw [← hqe, i64_in (by omega) (by omega)]))
          (repeat (first | (with_reducible first | apply WP_seq | apply WP_region | apply wpl_nil | apply thenQ_n) | (apply wlp; ((first | apply pv_move | apply pv_assign | (apply pf_load; exact rfl) | (apply pf_index; exact rfl)) <;> (first | exact rfl | assumption)); (first | exact fI rfl | exact fP rfl | exact fS rfl))))
          (apply wlp; exact pv_add rfl rfl; exact int_eq (i64_in (by omega) (by omega)))
          (repeat (apply wlp; ((apply pf_index; exact rfl) <;> (first | exact rfl | assumption)); exact fP rfl))
          (apply wls0; exact st_setL eI z j _ hp 1 rfl hv hjz rfl rfl (fun _ => rfl) rfl rfl (sizeTy_ok rfl); rintro _ w9 ⟨rfl, hp⟩)
          (repeat (first | (with_reducible first | apply WP_region | apply wpl_nil | apply thenQ_n) | (apply wlp; apply pv_move; exact fI rfl)))
          (apply wlp; exact pv_sub rfl rfl; exact int_eq (i64_in (by omega) (by omega)))
          (repeat (first | (with_reducible first | apply WP_region | apply wpl_nil | apply thenQ_n | apply inBlk_n) | (apply wlp; apply pv_assign; exact fI rfl)))
          (apply wlp; exact pv_add rfl rfl; exact int_eq (i64_in (by omega) (by omega)))
          (repeat (first | (with_reducible first | apply wpl_nil | apply thenQ_n) | (apply wlp; apply pv_move; exact fI rfl)))
          exact ⟨j + 1, _, put_self (put_self (Same.eq (by repeat (first | exact Same.hav | exact Same.refl | refine Same.put rfl ?_ | refine Same.havs rfl ?_))) rfl) (int_eq (by rw [hstep, hcm]; omega)), ⟨by omega, by rw [List.length_set, hzl], hnext _ hpf.symm, hv.set _ _, hp⟩, by omega⟩
        · rw [if_neg h4] at hstep
          rw [if_neg h4, Int.add_zero] at hpf
          have hsame : z.set j (pfS pot ms (l.take i) x) = z := by
            apply List.ext_getElem?
            intro q
            rw [List.getElem?_set]
            by_cases hqj : j = q
            · subst hqj
              rw [if_pos rfl, if_pos hjz, hzj]
            · rw [if_neg hqj]
          have hn2 := hnext _ hpf.symm
          rw [hsame] at hn2
          (repeat (with_reducible first | apply WP_region | apply thenQ_n | apply inBlk_n | apply WP_skip))
          (apply wlp; exact pv_add rfl rfl; exact int_eq (i64_in (by omega) (by omega)))
          (repeat (first | (with_reducible first | apply wpl_nil | apply thenQ_n) | (apply wlp; apply pv_move; exact fI rfl)))
          exact ⟨j + 1, _, put_self (put_self (Same.eq (by repeat (first | exact Same.hav | exact Same.refl | refine Same.put rfl ?_ | refine Same.havs rfl ?_))) rfl) (int_eq (by rw [hstep]; rfl)), ⟨by omega, hzl, hn2, hv, hp⟩, by omega⟩
      · obtain rfl : j = ms.length := by omega
        rw [List.take_length]
        have hlf : lfS pot ms (l.take (i + 1)) = lfS pot ms (l.take i) + (ms.count tm : Int) * prt pot ms (tm, tp) := by rw [htk]; exact lfS_app pot ms (l.take i) (tm, tp)
        (repeat (first | (with_reducible first | apply WP_region | apply thenQ_n | apply inBlk_n | apply thenQ_exit | apply WP_exit) | ((with_reducible apply inBlk_same); exact rfl)))
        (apply wlp; exact pv_add rfl rfl; exact int_eq (i64_in (by omega) (by omega)))
        (repeat (first | (with_reducible first | apply wpl_nil | apply thenQ_n) | (apply wlp; apply pv_move; exact fI rfl)))
        refine ⟨i + 1, z, put_self (put_self (Same.eq (by repeat (first | exact Same.hav | exact Same.refl | refine Same.put rfl ?_ | refine Same.havs rfl ?_))) rfl) (int_eq (by rw [hlf]; omega)), ⟨by omega, hzl, ?_, hv, hp.tail⟩, by omega⟩
        intro q x hq
        have := hz q x hq
        rwa [if_pos (List.getElem?_eq_some_iff.1 hq).1] at this
  · obtain rfl : i = l.length := by omega
    rw [List.take_length] at hz
    rw [List.take_length]
    have hzz : z = ms.map (pfS pot ms l) := by
      apply List.ext_getElem?
      intro q
      rw [List.getElem?_map]
      cases hq : ms[q]? with
      | none => rw [List.getElem?_eq_none (by rw [hzl]; simpa using hq)]; rfl
      | some x => rw [hz q x hq]; rfl
    subst hzz
    (repeat (first | (with_reducible first | apply WP_seq | apply WP_region | apply wpl_nil | apply thenQ_n | apply thenQ_exit | apply WP_ret | apply WP_exit) | ((with_reducible apply inBlk_same); exact rfl) | (apply wlp; (first | apply pv_move | apply pv_assign); (first | exact fI rfl | exact fB rfl | exact fS rfl))))
    exact ret_tmp3 rfl rfl rfl rfl ⟨_, rfl, g, rfl, hv, hp.picks [0] _ rfl rfl⟩
end Go.Proofs.YteklkjnhefnimaaDoor
