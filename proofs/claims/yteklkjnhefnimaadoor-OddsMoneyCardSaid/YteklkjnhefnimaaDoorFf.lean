/- The law OddsMoney returns true; conditions: the lists lie in memory. -/
import Derived.Test.YteklkjnhefnimaaDoorFe
namespace Go.Proofs.YteklkjnhefnimaaDoor
open Go.Eng Go.Dig

/-! plain laws -/
def eV8 (x : Int) : List Value := [.int .u8 x]
theorem band_bd (a : Int) : 0 ≤ bandI a 549755813887 ∧ bandI a 549755813887 ≤ 549755813887 := by
  have h1 : (BitVec.ofInt 64 a &&& BitVec.ofInt 64 549755813887).toNat ≤ 549755813887 := by
    rw [BitVec.toNat_and]
    exact Nat.le_trans Nat.and_le_right (by decide)
  unfold bandI
  rw [i64_in (by omega) (by omega)]
  omega
theorem tdiv_mul_le {x k : Int} (hx : 0 ≤ x) (hk : 0 ≤ k) : k * x.tdiv k ≤ x := by
  rw [Int.tdiv_eq_ediv_of_nonneg hx]
  by_cases h0 : k = 0
  · subst h0; simpa using hx
  · exact Int.mul_ediv_self_le h0
theorem lfS_le {pot : Int} {ms : List Int} {l : List (Int × Int)} (h : 0 ≤ pot) (ht : l.all okT = true) : 100 * lfS pot ms l ≤ pot * sumT l := by
  induction l with
  | nil => simp [lfS, sumT]
  | cons t l ih =>
    simp only [List.all_cons, Bool.and_eq_true] at ht
    have h1 := ih ht.2
    have ht2 : 0 ≤ t.2 ∧ t.2 ≤ 100 := by simpa [okT] using ht.1
    have h2 : 0 ≤ pot * t.2 := Int.mul_nonneg h ht2.1
    have h3 : 0 ≤ (pot * t.2).tdiv 100 := Int.tdiv_nonneg h2 (by decide)
    have h4 := tdiv_mul_le h3 (Int.natCast_nonneg (ms.count t.1))
    have h5 := tdiv_mul_le h2 (show (0 : Int) ≤ 100 by decide)
    simp only [lfS, sumT, prt, Int.mul_add]
    omega
theorem lfS_pot {pot : Int} {ms : List Int} {l : List (Int × Int)} (h : 0 ≤ pot) (ht : l.all okT = true) (hs : sumT l ≤ 100) : lfS pot ms l ≤ pot := by
  have h1 := lfS_le (ms := ms) h ht
  have h2 : pot * sumT l ≤ pot * 100 := Int.mul_le_mul_of_nonneg_left hs h
  omega
def sumI : List Int → Int
  | [] => 0
  | x :: l => x + sumI l
theorem sumI_app (l m : List Int) : sumI (l ++ m) = sumI l + sumI m := by
  induction l with
  | nil => simp [sumI]
  | cons t l ih => simp only [List.cons_append, sumI, ih]; omega
theorem sumI_if (ms : List Int) (m x : Int) : sumI (ms.map fun y => if y = m then x else 0) = (ms.count m : Int) * x := by
  induction ms with
  | nil => simp [sumI]
  | cons y l ih =>
    simp only [List.map_cons, sumI, ih, List.count_cons]
    by_cases h : y = m
    · subst h
      simp only [if_true, beq_self_eq_true]
      rw [count_mul_succ]
      omega
    · have hb : (y == m) = false := by simpa using h
      simp [h]
theorem sumI_add (ms : List Int) (f g : Int → Int) : sumI (ms.map fun y => f y + g y) = sumI (ms.map f) + sumI (ms.map g) := by
  induction ms with
  | nil => simp [sumI]
  | cons y l ih => simp only [List.map_cons, sumI, ih]; omega
theorem sum_lfS (pot : Int) (ms : List Int) : ∀ l : List (Int × Int), sumI (ms.map (pfS pot ms l)) = lfS pot ms l
  | [] => by
    have : ∀ l : List Int, sumI (l.map (pfS pot ms [])) = 0 := by
      intro l
      induction l with
      | nil => rfl
      | cons y l ih =>
        show pfS pot ms [] y + sumI (l.map (pfS pot ms [])) = 0
        rw [ih]
        rfl
    rw [this]
    rfl
  | t :: l => by
    have h1 := sum_lfS pot ms l
    have h2 : (ms.map (pfS pot ms (t :: l))) = ms.map fun y => (if y = t.1 then prt pot ms t else 0) + pfS pot ms l y := rfl
    rw [h2, sumI_add, sumI_if, lfS, ← h1]
theorem pfS_zero {pot : Int} {ms : List Int} {m : Int} : ∀ {l : List (Int × Int)}, (l.any fun t => decide (t.1 = m)) = false → pfS pot ms l m = 0
  | [], _ => rfl
  | t :: l, h => by
    simp only [List.any_cons, Bool.or_eq_false_iff, decide_eq_false_iff_not] at h
    rw [pfS, if_neg (fun e => h.1 e.symm), pfS_zero h.2]
    rfl
/-- what the map of OddsMoney holds -/
def byF (f : Int → Int) (l : List Int) : Int → Option Value := fun a => if a ∈ l then some (.int .i64 (f a)) else none
theorem byF_put (f : Int → Int) (l : List Int) (a : Int) : (fun x => if x = a then some (.int .i64 (f a)) else byF f l x) = byF f (l ++ [a]) := by
  funext x
  unfold byF
  by_cases h : x = a
  · subst h; simp
  · simp [h]
theorem byF_get (f : Int → Int) (l : List Int) (a : Int) : (Value.tuple #[(byF f l a).getD (.int .i64 0), .bool (byF f l a).isSome]) = .tuple #[.int .i64 (if a ∈ l then f a else 0), .bool (decide (a ∈ l))] := by
  unfold byF
  by_cases h : a ∈ l <;> simp [h]

attribute [local irreducible] PV StepF wpl wpd WP Ret
attribute [local irreducible] Fit RB prt

theorem c8 (q0 q1 q2 : Int) (ts : List (Int × Int)) (ms : List Int) (s s2 : Option Addr) (c c2 : Nat) (w : World) (hs : SlAt w 2 eT s ts) (hs2 : SlAt w 1 eV8 s2 ms) (hl : ts.length ≤ 9223372036854775806) (hl2 : ms.length ≤ 9223372036854775806) (hms : ∀ x ∈ ms, 0 ≤ x ∧ x < 256) :
    Ret Tryd.prog 8 [.agg #[.int .i64 q0, .int .i64 q1, .int .i64 q2], .slice s ts.length c, .slice s2 ms.length c2] w (fun v w' => v = .bool true ∧ Keeps [] w w') := by
  have hN1 := Int.emod_nonneg q0 (show (61 : Int) ≠ 0 by decide)
  have hN2 := Int.emod_lt_of_pos q0 (show (0 : Int) < 61 by decide)
  have h27 := c27 q0 q1 ts s c
  generalize q0 % 61 = N at *
  have hK1 := Int.emod_nonneg q1 (show N + 1 ≠ 0 by omega)
  have hK2 := Int.emod_lt_of_pos q1 (show 0 < N + 1 by omega)
  generalize q1 % (N + 1) = K at *
  have hpl := made_plain (ts.take 6) hN1 (by omega) hK1 (by omega) (by rw [List.length_take]; omega)
  have hTl : (mkT K 100 (ts.take 6)).length ≤ 6 := by rw [mkT_len, List.length_take]; omega
  generalize mkT K 100 (ts.take 6) = T at *
  have hT : T.all okT = true ∧ sumT T ≤ 100 := by
    unfold plB at hpl
    simp only [Bool.and_eq_true, decide_eq_true_eq] at hpl
    exact ⟨hpl.2.2.1, hpl.2.2.2⟩
  obtain ⟨hpt1, hpt2⟩ := band_bd q2
  refine Ret.of_WP Tryd.func8 rfl Tryd.ntmps8 rfl ?_
  have hp := (Hp.start (M := []) (w := w)).nilL eI 3 1
  (repeat (with_reducible first | apply WP_seq | apply WP_region))
  (apply wls; exact sbox3 hp rfl; rintro _ w1 ⟨qb, rfl, hp⟩)
  (repeat (first | (with_reducible first | apply WP_seq | apply WP_region | apply wpl_nil | apply thenQ_n) | (apply wlp; apply pv_assign; exact fB rfl)))
  (apply wls; exact st_call rfl ent11 rfl (c11 _); rintro _ w2 ⟨rfl, hk⟩; have hp := hp.call hk)
  (repeat (first | (with_reducible first | apply WP_seq | apply WP_region | apply wpl_nil | apply thenQ_n) | (apply wlp; ((first | apply pv_assign | (apply pf_index_a; exact rfl)) <;> exact rfl); exact fB rfl)))
  (apply wlp; exact pf_index_a (i := 0) rfl rfl rfl (by decide); exact fP rfl)
  (repeat (apply wlp; ((first | (apply pf_load; exact rfl) | (apply pf_index_a; exact rfl)) <;> (first | exact rfl | exact hp.cell 0 rfl rfl)); exact fI rfl))
  (apply wlp; exact pf_index_a (i := 1) rfl rfl rfl (by decide); exact fP rfl)
  (repeat (apply wlp; ((first | apply pv_move | (apply pf_load; exact rfl)) <;> (first | exact rfl | exact hp.cell 0 rfl rfl)); (first | exact fI rfl | exact fS rfl)))
  (apply wls; exact st_call rfl ent27 rfl (h27 _ (hs.keep0 hp.keeps) hl); rintro _ w3 ⟨sT, cT, rfl, hvT, hpo⟩; have hp := hp.join hpo)
  clear hpo
  (apply wls; exact salloc13 hp (zeroTy_ok rfl); rintro _ w4 ⟨db, rfl, hp⟩)
  (apply wls0; exact sstore13 hp 0 rfl rfl rfl rfl (sizeTy_ok rfl) rfl; rintro _ w5 ⟨rfl, hp⟩)
  have hp := hp.norm 0 (dw ⟨#[108, 111, 116, 116, 111]⟩ 1 3 5 N K sT T.length cT) rfl rfl
  have hp : Hp w [] w5 [blk db 13 (frOf (dw ⟨#[108, 111, 116, 116, 111]⟩ 1 3 5 N K sT T.length cT)) 50, ownL eT 57 2 sT cT T, blk qb 3 (frOf [.int .i64 q0, .int .i64 q1, .int .i64 q2]) 29, ownL eI 3 1 none 0 []] := hp
  (repeat (first | (with_reducible first | apply WP_seq | apply WP_region | apply wpl_nil | apply thenQ_n) | (apply wlp; ((apply pf_index_a; exact rfl) <;> exact rfl); skip)))
  (apply wlp; exact pf_index_a (i := 2) rfl rfl rfl (by decide); exact fP rfl)
  (repeat (apply wlp; ((apply pf_load; exact rfl) <;> (first | exact rfl | exact hp.cell 2 rfl rfl)); exact fI rfl))
  (apply wlp; exact pv_band rfl rfl; exact fI rfl)
  generalize bandI q2 549755813887 = pot at *
  (repeat (first | (with_reducible first | apply WP_seq | apply WP_block | apply WP_region | apply wpl_nil | apply thenQ_n) | (apply wlp; apply pv_assign; (first | exact fI rfl | exact fS rfl))))
  refine WP_loop3 [10, 11, 38, 39, 40, 41, 42, 43, 44, 45, 46, 47, 48, 49, 50, 51, 52, 53, 54, 55, 56, 57, 58, 59] (fun (i : Nat) (st : Option Addr) (ct : Nat) F => (F.put 11 (.int .i64 (i : Int))).put 10 (.slice st ((ms.take i).map fun x => x % (K + 1)).length ct))
    (fun i st ct w' => i ≤ ms.length ∧ i ≤ 100 ∧ SVL st ct ((ms.take i).map fun x => x % (K + 1)) ∧ Hp w [] w' [blk db 13 (frOf (dw ⟨#[108, 111, 116, 116, 111]⟩ 1 3 5 N K sT T.length cT)) 50, ownL eT 57 2 sT cT T, blk qb 3 (frOf [.int .i64 q0, .int .i64 q1, .int .i64 q2]) 29, ownL eI 3 1 st ct ((ms.take i).map fun x => x % (K + 1))]) (fun i _ _ => 100 - i) 0 none 0 (put_self (put_self (Same.eq .refl) rfl) rfl) ⟨Nat.zero_le _, by decide, SVL.nil, hp⟩ ?_
  clear hp
  rintro u i st ct w6 ⟨hi, hi1, hv, hp⟩
  (repeat (first | (with_reducible first | apply WP_seq | apply WP_region | apply wpl_nil | apply thenQ_n) | ((first | apply wlp | (apply wlg; exact rfl; exact rfl)); (intros; ((first | apply pv_move | (apply pf_len; exact rfl) | exact pv_and rfl rfl rfl | apply pv_lss) <;> (first | exact rfl | exact ev_sel rfl (by assumption)))); (intros; (first | exact fI rfl | exact fB rfl | exact fS rfl)))))
  refine WP_cond rfl (fun h => ?_) (fun h => ?_)
  · have hlt : i < ms.length ∧ i < 100 := by simp at h; omega
    obtain ⟨hlt, hlt1⟩ := hlt
    obtain ⟨b0, o0, hs0, hc0⟩ := hs2.base (by omega)
    have hci := hc0 i _ (List.getElem?_eq_getElem hlt) 0 _ rfl
    have htk := List.take_succ_eq_append_getElem hlt
    have hxb := hms _ (List.getElem_mem hlt)
    generalize ms[i] = x at hci htk hxb
    have hml : ((ms.take i).map fun x => x % (K + 1)).length ≤ 100 := by rw [List.length_map, List.length_take]; omega
    have hnx : ((ms.take (i + 1)).map fun x => x % (K + 1)) = ((ms.take i).map fun x => x % (K + 1)) ++ [x % (K + 1)] := by rw [htk, List.map_append]; rfl
    generalize ((ms.take i).map fun x => x % (K + 1)) = Z at *
    (repeat (with_reducible first | apply WP_seq | apply WP_block | apply thenQ_n | apply WP_skip))
    refine WP_drawS mixed (by kernel_rfl) (fun w' => Hp w [] w' _) hp.drew ?_
    have hp := hp.drew
    (apply wdp; exact rfl; (intro w hp; exact pv_move); exact fS rfl)
    (apply wdp; exact rfl; (intro w hp; exact pv_move); exact fS rfl)
    (apply wdp; exact rfl; (intro w hp; exact pv_move); exact fI rfl)
    (apply wdp; exact rfl; (intro w hp; exact pf_index rfl rfl rfl hs0 hlt); exact fP rfl)
    (apply wdp; exact rfl; (intro w hp; exact pf_load rfl rfl (hp.old0 hci)); exact fI rfl)
    (apply wdp; exact rfl; (intro w hp; exact pf_conv rfl rfl rfl); exact int_eq (b := x) (i64_in (by omega) (by omega)))
    (repeat ((apply wdp; exact rfl); (intro w hp; intros; ((first | apply pf_field | (apply pf_load; exact rfl)) <;> (first | exact rfl | exact hp.cell 0 rfl rfl))); (intros; (first | exact fI rfl | exact fP rfl))))
    (apply wdp; exact rfl; (intro w hp; exact pv_add rfl rfl); exact int_eq (i64_in (by omega) (by omega)))
    (apply wdp; exact rfl; (intro w hp; exact pv_rem rfl rfl (by omega)); exact int_eq (b := x % (K + 1)) (Int.tmod_eq_emod_of_nonneg hxb.1))
    (apply wds; exact rfl; exact sf_slice hp rfl rfl rfl rfl rfl rfl rfl; rintro _ w7 ⟨nb, rfl, hp⟩; refine ⟨hp.tail, ?_⟩)
    (apply wdsS; exact rfl; exact rfl; exact sf_app1 eI Z (x % (K + 1)) hp 4 0 rfl rfl rfl rfl rfl rfl (fun _ => rfl) rfl rfl rfl hv rfl rfl (by omega); rintro _ w8 ⟨s', c', rfl, hv', hp⟩)
    (repeat ((apply wdp; exact rfl); (intro w hp; intros; apply pv_assign); (intros; exact fS rfl)))
    refine wpd_nil ?_
    have hp := hp.tail
    rw [← hnx] at hv' ⊢
    have hp : Hp w [] w8 [blk db 13 (frOf (dw ⟨#[108, 111, 116, 116, 111]⟩ 1 3 5 N K sT T.length cT)) 50, ownL eT 57 2 sT cT T, blk qb 3 (frOf [.int .i64 q0, .int .i64 q1, .int .i64 q2]) 29, ownL eI 3 1 s' c' ((ms.take (i + 1)).map fun x => x % (K + 1))] := by rw [hnx]; exact hp
    (repeat (first | (with_reducible first | apply WP_region | apply thenQ_n | apply inBlk_n) | (apply wlp; apply pv_move; exact fI rfl)))
    (apply wlp; exact pv_add rfl rfl; exact int_eq (i64_in (by omega) (by omega)))
    (repeat (first | (with_reducible first | apply wpl_nil | apply thenQ_n) | (apply wlp; apply pv_assign; exact fI rfl)))
    exact ⟨i + 1, s', c', put_self (put_self (Same.eq (by repeat (first | exact Same.hav | exact Same.refl | refine Same.put rfl ?_ | refine Same.havs rfl ?_))) rfl) rfl, ⟨by omega, by omega, hv', hp⟩, by omega⟩
  · have hml : ((ms.take i).map fun x => x % (K + 1)).length ≤ 100 := by rw [List.length_map, List.length_take]; omega
    clear h hi hi1 hs hs2 h27 hms
    generalize ((ms.take i).map fun x => x % (K + 1)) = Z at *
    have hsT : SlAt w6 2 eT sT T := ownL_At hp 1 rfl hvT (fun _ => rfl)
    have hsZ : SlAt w6 1 eI st Z := ownL_At hp 3 rfl hv (fun _ => rfl)
    have hleft := lfS_pot (ms := Z) hpt1 hT.1 hT.2
    have hlz := lfS_bd (ms := Z) (l := T) ⟨hpt1, by omega⟩ hT.1 (by omega)
    have hsum := sum_lfS pot Z T
    (repeat (first | (with_reducible first | apply WP_seq | apply WP_region | apply thenQ_n | apply thenQ_exit | apply WP_exit) | ((with_reducible apply inBlk_same); exact rfl) | (apply wlp; ((first | apply pv_move | (apply pf_loadb; exact rfl)) <;> (first | exact rfl | exact hp.agg_blk 0 rfl rfl)); (first | exact fI rfl | exact fS rfl | exact fA13 rfl))))
    (apply wls; exact st_call rfl ent28 rfl (c28t ⟨#[108, 111, 116, 116, 111]⟩ 1 3 5 N K pot sT st cT ct T Z _ hsT hsZ (by omega) hpl ⟨hpt1, by omega⟩ (by omega)); rintro _ w7 ⟨pg, rfl, hvp, hpo⟩; have hp := hp.join hpo)
    clear hpo hsT hsZ
    (repeat (first | (with_reducible first | apply WP_seq | apply WP_region | apply wpl_nil | apply thenQ_n) | ((first | apply wlp | (apply wlg; exact rfl; exact rfl)); (intros; ((first | apply pv_move | apply pv_assign | (apply pf_len; exact rfl) | exact pv_orF rfl rfl | exact pv_or rfl rfl rfl | apply pv_lss | (apply pv_neq; (first | exact rfl | exact ev_sel rfl (by assumption))) | apply pv_not | apply pv_extract) <;> (first | exact rfl | exact ev_sel rfl (by assumption)))); (intros; (first | exact fI rfl | exact fB rfl | exact fS rfl | exact fU rfl)))))
    refine WP_cond rfl (fun h => ?_) (fun _ => ?_)
    · exfalso
      simp at h
      omega
    have hp : Hp w [] w7 [ownL eI 3 1 (some ⟨pg, 0, none⟩) Z.length (Z.map (pfS pot Z T)), blk db 13 (frOf (dw ⟨#[108, 111, 116, 116, 111]⟩ 1 3 5 N K sT T.length cT)) 50, ownL eT 57 2 sT cT T, blk qb 3 (frOf [.int .i64 q0, .int .i64 q1, .int .i64 q2]) 29, ownL eI 3 1 st ct Z] := hp
    (repeat (first | (with_reducible first | apply WP_seq | apply WP_region | apply wpl_nil | apply thenQ_n | apply WP_skip) | (apply wlp; (first | apply pv_move | apply pv_assign); exact fI rfl)))
    (apply wls; exact st_makemap kInt hp; rintro _ w8 ⟨mb, rfl, hp⟩)
    have hby0 : (fun _ => none : Int → Option Value) = byF (pfS pot Z T) (Z.take 0) := by
      funext x
      simp [byF]
    rw [hby0] at hp
    (repeat (first | (with_reducible first | apply WP_seq | apply WP_block | apply WP_region | apply wpl_nil | apply thenQ_n) | (apply wlp; apply pv_assign; (first | exact fI rfl | exact fM rfl))))
    refine WP_loopS [6, 15, 17, 18, 19, 20, 21, 83, 84, 85, 86, 87, 88, 89, 90, 91, 92, 93, 94, 95, 96, 97, 98, 99, 100, 101, 102, 103, 104, 105, 106, 107, 108, 109, 110, 111, 112, 113, 114, 115, 116, 117, 118, 119, 120, 121, 122, 123, 124, 125, 126, 127, 128, 129, 130, 131, 132, 133, 134, 135, 136, 137, 138, 139, 140, 141, 142, 143, 144, 145, 146, 147, 148, 149, 150, 151, 152, 153, 154, 155, 156, 157, 158] (fun (k : Nat) F => (F.put 17 (.int .i64 (k : Int))).put 15 (.int .i64 (pot - lfS pot Z T + sumI ((Z.take k).map (pfS pot Z T)))))
      (fun k w' => k ≤ Z.length ∧ 0 ≤ sumI ((Z.take k).map (pfS pot Z T)) ∧ sumI ((Z.take k).map (pfS pot Z T)) ≤ 6000000000000 * k ∧ Hp w [] w' (mapE kInt mb (byF (pfS pot Z T) (Z.take k)) :: [ownL eI 3 1 (some ⟨pg, 0, none⟩) Z.length (Z.map (pfS pot Z T)), blk db 13 (frOf (dw ⟨#[108, 111, 116, 116, 111]⟩ 1 3 5 N K sT T.length cT)) 50, ownL eT 57 2 sT cT T, blk qb 3 (frOf [.int .i64 q0, .int .i64 q1, .int .i64 q2]) 29, ownL eI 3 1 st ct Z])) (fun k => Z.length - k) 0 (put_self (put_self (Same.eq .refl) rfl) (int_eq (by simp [sumI]))) ⟨Nat.zero_le _, by simp [sumI], by simp [sumI], hp⟩ ?_
    clear hp
    rintro u2 k w9 ⟨hk, hsu1, hsu2, hp⟩
    (repeat (first | (with_reducible first | apply WP_seq | apply WP_region | apply wpl_nil | apply thenQ_n) | (apply wlp; ((first | apply pv_move | (apply pf_len; exact rfl) | apply pv_lss) <;> exact rfl); (first | exact fI rfl | exact fB rfl | exact fS rfl))))
    refine WP_cond_d rfl (fun h => ?_) (fun h => ?_)
    · have hlt : k < Z.length := by omega
      have htk := List.take_succ_eq_append_getElem hlt
      obtain ⟨bz, oz, hsz, hcz⟩ := (ownL_At hp 5 rfl hv (fun _ => rfl)).base (by omega)
      have hgk := List.getElem?_eq_getElem hlt
      have hcz1 : w9.cell? ⟨bz, oz + k * 1, none⟩ = some (.int .i64 Z[k]) := hcz k _ hgk 0 _ rfl
      have hpk : (Z.map (pfS pot Z T))[k]? = some (pfS pot Z T Z[k]) := by rw [List.getElem?_map, hgk]; rfl
      generalize hza : Z[k] = a at *
      have hcp1 : w9.cell? ⟨pg, 0 + k * 1, none⟩ = some (.int .i64 (pfS pot Z T a)) := own_elem hp 1 rfl hvp (fun _ => rfl) hpk 0 _ rfl
      have hpb := pfS_bd (ms := Z) (m := a) (l := T) ⟨hpt1, by omega⟩ hT.1
      have hsum2 : sumI ((Z.take (k + 1)).map (pfS pot Z T)) = sumI ((Z.take k).map (pfS pot Z T)) + pfS pot Z T a := by
        rw [htk, List.map_append, sumI_app]
        simp [sumI]
      have hpz := fun h => pfS_zero (pot := pot) (ms := Z) (m := a) (l := T) h
      have hput := byF_put (pfS pot Z T) (Z.take k) a
      rw [← htk] at hput
      have hget := byF_get (pfS pot Z T) (Z.take k) a
      have cellZ : ∀ w', Hp w [] w' [ownL eI 3 1 (some ⟨pg, 0, none⟩) Z.length (Z.map (pfS pot Z T)), blk db 13 (frOf (dw ⟨#[108, 111, 116, 116, 111]⟩ 1 3 5 N K sT T.length cT)) 50, ownL eT 57 2 sT cT T, blk qb 3 (frOf [.int .i64 q0, .int .i64 q1, .int .i64 q2]) 29, ownL eI 3 1 st ct Z] → w'.cell? ⟨bz, oz + k * 1, none⟩ = some (.int .i64 a) := by
        intro w' hp
        obtain ⟨b, o, e, hc⟩ := ownL_At hp 4 rfl hv (fun _ => rfl) k a hgk
        rw [hsz] at e
        cases e
        exact hc 0 _ rfl
      have cellP : ∀ w', Hp w [] w' [ownL eI 3 1 (some ⟨pg, 0, none⟩) Z.length (Z.map (pfS pot Z T)), blk db 13 (frOf (dw ⟨#[108, 111, 116, 116, 111]⟩ 1 3 5 N K sT T.length cT)) 50, ownL eT 57 2 sT cT T, blk qb 3 (frOf [.int .i64 q0, .int .i64 q1, .int .i64 q2]) 29, ownL eI 3 1 st ct Z] → w'.cell? ⟨pg, 0 + k * 1, none⟩ = some (.int .i64 (pfS pot Z T a)) := fun w' hp => own_elem hp 0 rfl hvp (fun _ => rfl) hpk 0 _ rfl
      generalize hP : pfS pot Z T a = P at *
      (repeat (first | (with_reducible first | apply WP_seq | apply WP_block | apply WP_region | apply thenQ_n | apply WP_skip) | (apply wlp; ((first | apply pv_move | (apply pf_load; exact rfl) | (apply pf_index; exact rfl)) <;> (first | exact rfl | assumption)); (first | exact fI rfl | exact fP rfl | exact fS rfl))))
      (apply wlp; exact pv_add rfl rfl; exact int_eq (i64_in (by omega) (by omega)))
      (repeat (first | (with_reducible first | apply WP_seq | apply WP_region | apply wpl_nil | apply thenQ_n) | (apply wlp; ((first | apply pv_move | apply pv_assign | (apply pf_load; exact rfl) | (apply pf_index; exact rfl)) <;> (first | exact rfl | assumption)); (first | exact fI rfl | exact fP rfl | exact fS rfl | exact fM rfl))))
      (apply wlp; exact pv_lookup_ok hp 0 rfl rfl rfl (mapTyI_ok (t := 54) rfl).1 (mapTyI_ok (t := 54) rfl).2.1 (mapTyI_ok (t := 54) rfl).2.2; exact hget)
      (repeat (first | (with_reducible first | apply WP_seq | apply WP_region | apply wpl_nil | apply thenQ_n) | ((first | apply wlp | (apply wlg; exact rfl; exact rfl)); (intros; ((first | apply pv_move | apply pv_assign | (apply pf_load; exact rfl) | exact pv_and rfl rfl rfl | exact pv_or rfl rfl rfl | apply pv_lss | (apply pv_neq; (first | exact rfl | exact ev_sel rfl (by assumption))) | apply pv_extract | (apply pf_index; exact rfl)) <;> (first | exact rfl | exact ev_sel rfl (by assumption) | assumption))); (intros; (first | exact fI rfl | exact fB rfl | exact fP rfl | exact fS rfl | exact fU rfl)))))
      refine WP_cond rfl (fun h => ?_) (fun _ => ?_)
      · exfalso
        by_cases hm : a ∈ Z.take k
        · simp [hm] at h
          omega
        · simp [hm] at h
          omega
      (repeat (with_reducible first | apply WP_seq | apply thenQ_n | apply WP_skip))
      refine WP_draw mixed (by kernel_rfl) (fun w' => Hp w [] w' [ownL eI 3 1 (some ⟨pg, 0, none⟩) Z.length (Z.map (pfS pot Z T)), blk db 13 (frOf (dw ⟨#[108, 111, 116, 116, 111]⟩ 1 3 5 N K sT T.length cT)) 50, ownL eT 57 2 sT cT T, blk qb 3 (frOf [.int .i64 q0, .int .i64 q1, .int .i64 q2]) 29, ownL eI 3 1 st ct Z]) hp.tail.drew ?_
      have hp := hp.drew
      (apply wdp; exact rfl; (intro w hp; exact pv_move); exact fM rfl)
      (apply wdp; exact rfl; (intro w hp; exact pv_move); exact fS rfl)
      (apply wdp; exact rfl; (intro w hp; exact pv_move); exact fI rfl)
      (apply wdp; exact rfl; (intro w hp; exact pf_index rfl rfl rfl hsz hlt); exact fP rfl)
      (apply wdp; exact rfl; (intro w hp; exact pf_load rfl rfl (cellZ w hp)); exact fI rfl)
      (apply wdp; exact rfl; (intro w hp; exact pv_move); exact fS rfl)
      (apply wdp; exact rfl; (intro w hp; exact pv_move); exact fI rfl)
      (apply wdp; exact rfl; (intro w hp; exact pf_index rfl rfl rfl rfl hlt); exact fP rfl)
      (apply wdp; exact rfl; (intro w hp; exact pf_load rfl rfl (cellP w hp)); exact fI rfl)
      (apply wds0; exact rfl; exact st_mapput (v := .int .i64 P) hp 0 rfl rfl rfl rfl (mapTyI_ok (t := 54) rfl).1 (mapTyI_ok (t := 54) rfl).2.1; rintro _ w10 ⟨rfl, hp⟩; refine ⟨hp.tail, ?_⟩)
      refine wpd_nil ?_
      rw [hput] at hp
      have hp : Hp w [] w10 (mapE kInt mb (byF (pfS pot Z T) (Z.take (k + 1))) :: [ownL eI 3 1 (some ⟨pg, 0, none⟩) Z.length (Z.map (pfS pot Z T)), blk db 13 (frOf (dw ⟨#[108, 111, 116, 116, 111]⟩ 1 3 5 N K sT T.length cT)) 50, ownL eT 57 2 sT cT T, blk qb 3 (frOf [.int .i64 q0, .int .i64 q1, .int .i64 q2]) 29, ownL eI 3 1 st ct Z]) := hp
      clear hcp1 hcz1 hcz
      (repeat (first | (with_reducible first | apply WP_seq | apply WP_block | apply WP_region | apply wpl_nil | apply thenQ_n) | (apply wlp; apply pv_assign; (first | exact fI rfl | exact fB rfl))))
      refine WP_loopS [20, 21, 129, 130, 131, 132, 133, 134, 135, 136, 137, 138, 139, 140, 141, 142, 143, 144, 145, 146, 147, 148, 149] (fun (j : Nat) F => (F.put 21 (.int .i64 (j : Int))).put 20 (.bool ((T.take j).any fun t => decide (t.1 = a))))
        (fun j w' => j ≤ T.length ∧ Hp w [] w' (mapE kInt mb (byF (pfS pot Z T) (Z.take (k + 1))) :: [ownL eI 3 1 (some ⟨pg, 0, none⟩) Z.length (Z.map (pfS pot Z T)), blk db 13 (frOf (dw ⟨#[108, 111, 116, 116, 111]⟩ 1 3 5 N K sT T.length cT)) 50, ownL eT 57 2 sT cT T, blk qb 3 (frOf [.int .i64 q0, .int .i64 q1, .int .i64 q2]) 29, ownL eI 3 1 st ct Z])) (fun j => T.length - j) 0 (put_self (put_self (Same.eq .refl) rfl) rfl) ⟨Nat.zero_le _, hp⟩ ?_
      clear hp
      rintro u3 j w11 ⟨hj, hp⟩
      (repeat (first | (with_reducible first | apply WP_seq | apply WP_region | apply wpl_nil | apply thenQ_n) | (apply wlp; ((first | apply pv_move | apply pf_field | (apply pf_load; exact rfl) | (apply pf_len; exact rfl) | apply pv_lss) <;> (first | exact rfl | exact hp.cell 2 rfl rfl)); (first | exact fI rfl | exact fB rfl | exact fP rfl | exact fS rfl))))
      refine WP_cond_d rfl (fun h => ?_) (fun h => ?_)
      · have hltj : j < T.length := by omega
        obtain ⟨bt, ot, hst, hct⟩ := (ownL_At hp 3 rfl hvT (fun _ => rfl)).base (by omega)
        have hctj := hct j _ (List.getElem?_eq_getElem hltj) 0 _ rfl
        have htj := List.take_succ_eq_append_getElem hltj
        have hcz1 := cellZ _ hp.tail
        have hd6 : w11.cell? ⟨db, 0 + 6, none⟩ = some (.slice sT T.length cT) := hp.cell 2 rfl rfl
        have hany : ((T.take (j + 1)).any fun t => decide (t.1 = a)) = (((T.take j).any fun t => decide (t.1 = a)) || decide (T[j].1 = a)) := by
          rw [htj, List.any_append]
          simp
        generalize T[j] = t at hctj hany
        obtain ⟨tm, tp⟩ := t
        have hctj : w11.cell? ⟨bt, ot + j * 2 + 0, none⟩ = some (.int .i64 tm) := hctj
        have hany : ((T.take (j + 1)).any fun t => decide (t.1 = a)) = (((T.take j).any fun t => decide (t.1 = a)) || decide (tm = a)) := hany
        (repeat (with_reducible first | apply WP_seq | apply WP_block | apply thenQ_n | apply WP_skip))
        refine WP_draw mixed (by kernel_rfl) (fun w' => Hp w11 [] w' []) Hp.start.drew ?_
        have hpw := hp
        clear hp
        have hp := Hp.start (M := []) (w := w11)
        (repeat ((first | (apply wdp; exact rfl) | (apply wdg; exact rfl; exact rfl; exact rfl)); (intro w hp; intros; ((first | apply pv_move | apply pv_assign | apply pf_field | (apply pf_load; exact rfl) | exact pv_or rfl rfl rfl | (apply pv_eql; (first | exact rfl | exact ev_sel rfl (by assumption))) | (apply pf_index; exact rfl)) <;> (first | exact rfl | exact ev_sel rfl (by assumption) | assumption | exact hp.old0 (by assumption)))); (intros; (first | exact fI rfl | exact fB rfl | exact fP rfl | exact fS rfl))))
        refine wpd_nil ?_
        have hp := hpw.drew
        rw [← hany]
        (repeat (first | (with_reducible first | apply WP_region | apply thenQ_n | apply inBlk_n) | (apply wlp; apply pv_move; exact fI rfl)))
        (apply wlp; exact pv_add rfl rfl; exact int_eq (i64_in (by omega) (by omega)))
        (repeat (first | (with_reducible first | apply wpl_nil | apply thenQ_n) | (apply wlp; apply pv_assign; exact fI rfl)))
        exact ⟨j + 1, put_self (put_self (Same.eq (by repeat (first | exact Same.hav | exact Same.refl | refine Same.put rfl ?_ | refine Same.havs rfl ?_))) rfl) rfl, ⟨by omega, hp⟩, by omega⟩
      · obtain rfl : j = T.length := by omega
        rw [List.take_length]
        have hcp1 := cellP _ hp.tail
        (repeat (first | (with_reducible first | apply WP_seq | apply WP_region | apply wpl_nil | apply thenQ_n | apply thenQ_exit | apply WP_exit) | ((with_reducible apply inBlk_same); exact rfl) | ((first | apply wlp | (apply wlg; exact rfl; exact rfl)); (intros; ((first | apply pv_move | (apply pf_load; exact rfl) | exact pv_and rfl rfl rfl | (apply pv_neq; (first | exact rfl | exact ev_sel rfl (by assumption))) | apply pv_not | (apply pf_index; exact rfl)) <;> (first | exact rfl | exact ev_sel rfl (by assumption) | assumption))); (intros; (first | exact fI rfl | exact fB rfl | exact fP rfl | exact fS rfl)))))
        refine WP_cond rfl (fun h => ?_) (fun _ => ?_)
        · exfalso
          cases hta : (T.any fun t => decide (t.1 = a))
          · have := hpz hta
            simp [hta] at h
            omega
          · simp [hta] at h
        (repeat (first | (with_reducible first | apply WP_region | apply thenQ_n | apply inBlk_n | apply WP_skip) | (apply wlp; apply pv_move; exact fI rfl)))
        (apply wlp; exact pv_add rfl rfl; exact int_eq (i64_in (by omega) (by omega)))
        (repeat (first | (with_reducible first | apply wpl_nil | apply thenQ_n) | (apply wlp; apply pv_assign; exact fI rfl)))
        exact ⟨k + 1, put_self (put_self (Same.eq (by repeat (first | exact Same.hav | exact Same.refl | refine Same.put rfl ?_ | refine Same.havs rfl ?_))) rfl) (int_eq (by rw [hsum2]; omega)), ⟨by omega, by omega, by omega, hp⟩, by omega⟩
    · obtain rfl : k = Z.length := by omega
      rw [List.take_length, hsum]
      have hp := hp.tail
      have h28a := fun (zg : Nat) w hs => c28f ⟨#[108, 111, 116, 116, 111]⟩ 1 3 5 N K pot sT (some ⟨zg, 0, none⟩) cT 2001 T (List.replicate 2001 0) w hs (by omega) (.inr (.inr (.inr (by rw [List.length_replicate]; decide))))
      have h28b := fun (zg : Nat) w hs hs2 => c28t ⟨#[108, 111, 116, 116, 111]⟩ 1 3 5 N K pot sT (some ⟨zg, 0, none⟩) cT 2000 T (List.replicate 2000 0) w hs hs2 (by omega) hpl ⟨hpt1, by omega⟩ (by rw [List.length_replicate]; decide)
      simp only [List.length_replicate] at h28a h28b
      (repeat (first | (with_reducible first | apply WP_seq | apply thenQ_n | apply thenQ_exit | apply WP_exit) | ((with_reducible apply inBlk_same); exact rfl)))
      refine WP_draw mixed (by kernel_rfl) (fun w' => Hp w [] w' [ownL eI 3 1 (some ⟨pg, 0, none⟩) Z.length (Z.map (pfS pot Z T)), blk db 13 (frOf (dw ⟨#[108, 111, 116, 116, 111]⟩ 1 3 5 N K sT T.length cT)) 50, ownL eT 57 2 sT cT T, blk qb 3 (frOf [.int .i64 q0, .int .i64 q1, .int .i64 q2]) 29, ownL eI 3 1 st ct Z]) hp.drew ?_
      have hp := hp.drew
      (repeat ((apply wdp; exact rfl); (intro w hp; intros; ((first | apply pv_move | (apply pf_loadb; exact rfl)) <;> (first | exact rfl | exact hp.agg_blk 1 rfl rfl))); (intros; (first | exact fI rfl | exact fA13 rfl))))
      (apply wds; exact rfl; exact sf_make (m := 2001) eI 0 hp rfl rfl rfl rfl rfl rfl rfl (by decide) rfl; rintro _ w12 ⟨zg, rfl, hvz, hp⟩; have hp := hp.tail; refine ⟨hp, ?_⟩)
      (apply wds; exact rfl; exact st_call rfl ent28 rfl (h28a zg _ (ownL_At hp 2 rfl hvT (fun _ => rfl))); rintro _ w13 ⟨rfl, hk2⟩; have hp := hp.call hk2; refine ⟨hp, ?_⟩)
      (repeat ((apply wdp; exact rfl); (intro w hp; intros; ((first | apply pv_move | apply pv_assign | apply pv_extract) <;> exact rfl)); (intros; (first | exact fI rfl | exact fB rfl | exact fS rfl | exact fU rfl))))
      refine wpd_nil ?_
      (repeat (with_reducible first | apply WP_seq | apply thenQ_n))
      refine WP_draw mixed (by kernel_rfl) (fun w' => Hp w [] w' [ownL eI 3 1 (some ⟨pg, 0, none⟩) Z.length (Z.map (pfS pot Z T)), blk db 13 (frOf (dw ⟨#[108, 111, 116, 116, 111]⟩ 1 3 5 N K sT T.length cT)) 50, ownL eT 57 2 sT cT T, blk qb 3 (frOf [.int .i64 q0, .int .i64 q1, .int .i64 q2]) 29, ownL eI 3 1 st ct Z]) hp.drew ?_
      have hp := hp.drew
      (repeat ((apply wdp; exact rfl); (intro w hp; intros; ((first | apply pv_move | (apply pf_loadb; exact rfl)) <;> (first | exact rfl | exact hp.agg_blk 1 rfl rfl))); (intros; (first | exact fI rfl | exact fA13 rfl))))
      (apply wds; exact rfl; exact sf_make (m := 2000) eI 0 hp rfl rfl rfl rfl rfl rfl rfl (by decide) rfl; rintro _ w14 ⟨zg2, rfl, hvz2, hp⟩; refine ⟨hp.tail, ?_⟩)
      (apply wds; exact rfl; exact st_call rfl ent28 rfl (h28b zg2 _ (ownL_At hp 3 rfl hvT (fun _ => rfl)) (ownL_At hp 0 rfl hvz2 (fun _ => rfl))); rintro _ w15 ⟨pg2, rfl, _, hpo⟩; have hp := hp.tail.call hpo.keeps; refine ⟨hp, ?_⟩)
      clear hpo
      (repeat ((apply wdp; exact rfl); (intro w hp; intros; ((first | apply pv_move | apply pv_assign | apply pv_extract) <;> exact rfl)); (intros; (first | exact fI rfl | exact fB rfl | exact fS rfl | exact fU rfl))))
      refine wpd_nil ?_
      (repeat (first | (with_reducible first | apply WP_seq | apply WP_region | apply wpl_nil | apply thenQ_n | apply WP_ret) | ((first | apply wlp | (apply wlg; exact rfl; exact rfl)); (intros; ((first | apply pv_move | apply pv_assign | exact pv_andT rfl rfl | exact pv_and rfl rfl rfl | (apply pv_eql; (first | exact rfl | exact ev_sel rfl (by assumption))) | apply pv_not) <;> (first | exact rfl | exact ev_sel rfl (by assumption)))); (intros; (first | exact fI rfl | exact fB rfl)))))
      refine ret_tmp rfl (fB rfl) ⟨_, rfl, bool_eq ?_, hp.keeps⟩
      simp
end Go.Proofs.YteklkjnhefnimaaDoor
