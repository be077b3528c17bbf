/- Printed by gen_gd.py. sortesref01: trim, minus, Sub, Add, Mul; conditions: the numbers are short. -/
import Derived.Test.YteklkjnhefnimaaDoorGa
namespace Go.Proofs.YteklkjnhefnimaaDoor
open Go.Eng Go.Dig

theorem trim_d24 {l : List Nat} (h : Bd 16777216 l) : trimL l = d24 (val 16777216 l) := trimL_digs (by decide) h
theorem pn_quoI {n : Nat} {F : Fr} {w : World} {d : Option Tmp} {ty : TypeId} {pos : String} {aft : Array Edge} {g : Option (Nat × Bool)} {x y : Operand} {t t' a b : Nat} (hx : ev n F x = .int .i64 (a : Int)) (hy : ev n F y = .int .i64 (b : Int)) (hb : 0 < b) (ha : a ≤ 9223372036854775807) : PV Tryd.prog n w F ⟨d, .binOp .quo t x y t', ty, pos, aft, g⟩ (.int .i64 ((a / b : Nat) : Int)) := by
  have h := pv_quo (P := Tryd.prog) (w := w) (d := d) (ty := ty) (pos := pos) (aft := aft) (g := g) (t := t) (t' := t') hx hy (by omega)
  rwa [i64_quo b ha] at h
theorem pn_remI {n : Nat} {F : Fr} {w : World} {d : Option Tmp} {ty : TypeId} {pos : String} {aft : Array Edge} {g : Option (Nat × Bool)} {x y : Operand} {t t' a b : Nat} (hx : ev n F x = .int .i64 (a : Int)) (hy : ev n F y = .int .i64 (b : Int)) (hb : 0 < b) : PV Tryd.prog n w F ⟨d, .binOp .rem t x y t', ty, pos, aft, g⟩ (.int .i64 ((a % b : Nat) : Int)) := by
  have h := pv_rem (P := Tryd.prog) (w := w) (d := d) (ty := ty) (pos := pos) (aft := aft) (g := g) (t := t) (t' := t') hx hy (by omega)
  rwa [int_rem] at h
theorem val_snoc (b : Nat) (l : List Nat) (d : Nat) : val b (l ++ [d]) = val b l + b ^ l.length * d := by rw [val_append, val_single]

attribute [local irreducible] PV StepF wpl wpd WP Ret
attribute [local irreducible] Fit RB

theorem c89 (l : List Nat) (s : Option Addr) (c : Nat) (w : World) (hc : l.length ≤ c) (hm : l.length ≤ 1000000) (hs : SlAt w 1 eD s l) :
    Ret Tryd.prog 89 [.slice s l.length c] w (fun v w' => v = .slice s (trimL l).length c ∧ Keeps [] w w') := by
  refine Ret.of_WP Tryd.func89 rfl Tryd.ntmps89 rfl ?_
  have hp := Hp.start (M := []) (w := w)
  (repeat (first | (with_reducible first | apply WP_seq | apply WP_block | apply WP_region | apply wpl_nil | apply thenQ_n) | (apply wlp; apply pv_assign; exact fS rfl)))
  refine WP_loopS [0, 3, 4, 5, 6, 7, 8, 9, 10, 11, 12, 13, 14, 15, 16, 17, 18, 19] (fun (m : Nat) F => F.put 0 (.slice s m c)) (fun m w' => m ≤ l.length ∧ trimL l = trimL (l.take m) ∧ Hp w [] w' []) (fun m => m) l.length (put_self (Same.eq .refl) rfl) ⟨Nat.le_refl _, by rw [List.take_length], hp⟩ ?_
  clear hp
  rintro u m w1 ⟨hml, ht, hp⟩
  (repeat (with_reducible first | apply WP_seq | apply WP_region))
  (apply wlp; apply pv_move; exact fS rfl)
  (apply wlp; ((apply pf_len; exact rfl) <;> exact rfl); exact fI rfl)
  by_cases h0 : 0 < m
  · obtain ⟨k, rfl⟩ : ∃ k, m = k + 1 := ⟨m - 1, by omega⟩
    have hlt : k < l.length := by omega
    have hk1 : k < k + 1 := by omega
    have htk := List.take_succ_eq_append_getElem hlt
    obtain ⟨b0, o0, hs0, hc0⟩ := hs.base (by omega)
    have hci := hc0 k _ (List.getElem?_eq_getElem hlt) 0 _ rfl
    generalize l[k] = y at hci htk
    have hci : w.cell? ⟨b0, o0 + k * 1, none⟩ = some (.int .i64 (y : Int)) := hci
    (apply wlp; (exact pv_gtr rfl rfl); exact bool_eq (b := true) (decide_eq_true (by omega)))
    (repeat (first | (apply wlp; (intros; ((first | apply pv_move | (apply pf_len; exact rfl)) <;> exact rfl)); (intros; (first | exact fI rfl | exact fB rfl | exact fS rfl))) | ((apply wlpT; exact rfl; exact rfl); (((first | apply pv_move | (apply pf_len; exact rfl)) <;> exact rfl)); (intros; (first | exact fI rfl | exact fB rfl | exact fS rfl))) | (apply wlpF; exact rfl; exact rfl; exact rfl) | (apply wlpU; exact rfl; exact rfl)))
    (apply wlpT; exact rfl; exact rfl; (exact pv_sub rfl rfl); exact int_eq (b := ((k : Nat) : Int)) (by rw [i64_in (by omega) (by omega)]; omega))
    (repeat (first | (with_reducible first | apply wpl_nil | apply thenQ_n) | (apply wlp; (intros; ((first | (apply pf_load; exact rfl) | exact pv_andT rfl rfl | (apply pv_eql; (first | exact rfl | exact ev_sel rfl (by assumption))) | (apply pf_index; exact rfl)) <;> (first | exact rfl | assumption | exact hp.old0 (by assumption)))); (intros; (first | exact fI rfl | exact fB rfl | exact fP rfl))) | ((apply wlpT; exact rfl; exact rfl); (((first | (apply pf_load; exact rfl) | exact pv_andT rfl rfl | (apply pv_eql; (first | exact rfl | exact ev_sel rfl (by assumption))) | (apply pf_index; exact rfl)) <;> (first | exact rfl | assumption | exact hp.old0 (by assumption)))); (intros; (first | exact fI rfl | exact fB rfl | exact fP rfl))) | (apply wlpF; exact rfl; exact rfl; exact rfl) | (apply wlpU; exact rfl; exact rfl)))
    refine WP_cond_d rfl (fun h => ?_) (fun h => ?_)
    · have hy : y = 0 := by omega
      subst hy
      (repeat (first | (with_reducible first | apply WP_block | apply WP_region | apply thenQ_n | apply WP_skip) | (apply wlp; ((first | apply pv_move | (apply pf_len; exact rfl)) <;> exact rfl); (first | exact fI rfl | exact fS rfl))))
      (apply wlp; (exact pv_sub rfl rfl); exact int_eq (b := ((k : Nat) : Int)) (by rw [i64_in (by omega) (by omega)]; omega))
      (apply wlp; exact pv_sliceTo rfl rfl rfl (by omega); exact fS rfl)
      (repeat (first | (with_reducible first | apply wpl_nil | apply thenQ_n | apply inBlk_n) | (apply wlp; apply pv_assign; exact fS rfl)))
      refine ⟨k, put_self (Same.eq (by repeat (first | exact Same.hav | exact Same.refl | refine Same.put rfl ?_ | refine Same.havs rfl ?_))) rfl, ⟨by omega, ?_, hp⟩, by omega⟩
      rw [ht, htk, trimL_snoc0]
    · have hy : y ≠ 0 := by omega
      (repeat (first | (with_reducible first | apply WP_seq | apply WP_region | apply wpl_nil | apply thenQ_n | apply thenQ_exit | apply WP_ret | apply WP_exit) | ((with_reducible apply inBlk_same); exact rfl) | (apply wlp; (first | apply pv_move | apply pv_assign); exact fS rfl)))
      refine ret_tmp rfl rfl ⟨_, rfl, sl_eq ?_, hp.keeps⟩
      rw [ht, htk, trimL_snoc hy]
      simp
      omega
  · obtain rfl : m = 0 := by omega
    (apply wlp; (exact pv_gtr rfl rfl); exact bool_eq (b := false) (decide_eq_false (by omega)))
    (repeat (first | (with_reducible first | apply wpl_nil | apply thenQ_n) | (apply wlp; (intros; (first | apply pv_move | exact pv_andF rfl)); (intros; exact fB rfl)) | (apply wlpF; exact rfl; exact rfl; exact rfl) | (apply wlpU; exact rfl; exact rfl)))
    refine WP_cond_f rfl ?_
    (repeat (first | (with_reducible first | apply WP_seq | apply WP_region | apply wpl_nil | apply thenQ_n | apply thenQ_exit | apply WP_ret | apply WP_exit) | ((with_reducible apply inBlk_same); exact rfl) | (apply wlp; (first | apply pv_move | apply pv_assign); exact fS rfl)))
    refine ret_tmp rfl rfl ⟨_, rfl, sl_eq ?_, hp.keeps⟩
    rw [ht]
    rfl
theorem WP_loop5 {P : Program} {n : Nat} {Q : Exit → Fr → World → Prop} {F : Fr} {w : World} {c : Code} {X Y Z T U : Type} (S : List Nat) (H : X → Y → Z → T → U → Fr → Fr) (I : X → Y → Z → T → U → World → Prop) (μ : X → Y → Z → T → U → Nat) (x0 : X) (y0 : Y) (z0 : Z) (t0 : T) (u0 : U) (h0 : F = H x0 y0 z0 t0 u0 (Fr.hav S F F)) (hi : I x0 y0 z0 t0 u0 w)
    (round : ∀ (v : Fr) (x : X) (y : Y) (z : Z) (t : T) (u : U) (w : World), I x y z t u w → WP P n c (thenQ (fun F' w' => ∃ x' y' z' t' u', F' = H x' y' z' t' u' (Fr.hav S F' F) ∧ I x' y' z' t' u' w' ∧ μ x' y' z' t' u' < μ x y z t u) Q) (H x y z t u (Fr.hav S v F)) w) : WP P n (.loop c) Q F w := by
  refine WP_loopS S (fun (x : X × Y × Z × T × U) => H x.1 x.2.1 x.2.2.1 x.2.2.2.1 x.2.2.2.2) (fun x => I x.1 x.2.1 x.2.2.1 x.2.2.2.1 x.2.2.2.2) (fun x => μ x.1 x.2.1 x.2.2.1 x.2.2.2.1 x.2.2.2.2) (x0, y0, z0, t0, u0) h0 hi ?_
  intro u x w hI
  refine WP_mono (round u x.1 x.2.1 x.2.2.1 x.2.2.2.1 x.2.2.2.2 w hI) ?_
  intro e F w h
  cases e with
  | normal =>
    obtain ⟨x', y', z', t', u', h1, h2, h3⟩ := h
    exact ⟨(x', y', z', t', u'), h1, h2, h3⟩
  | _ => exact h
theorem c73 (x y : Nat) (s s2 : Option Addr) (c c2 : Nat) (w : World) (hx : SlAt w 1 eD s (d24 x)) (hy : SlAt w 1 eD s2 (d24 y)) (hlx : (d24 x).length ≤ 100000) (hly : (d24 y).length ≤ 100000) (hyx : y ≤ x) :
    Ret Tryd.prog 73 [.slice s (d24 x).length c, .slice s2 (d24 y).length c2] w (fun v w' => ∃ s' c', v = .slice s' (d24 (x - y)).length c' ∧ (d24 (x - y)).length ≤ c' ∧ SlAt w' 1 eD s' (d24 (x - y)) ∧ Keeps [] w w') := by
  refine Ret.of_WP Tryd.func73 rfl Tryd.ntmps73 rfl ?_
  have hp := (Hp.start (M := []) (w := w)).nilL eD 3 1
  (repeat (first | (with_reducible first | apply WP_seq | apply WP_block | apply WP_region | apply wpl_nil | apply thenQ_n) | (apply wlp; apply pv_assign; (first | exact fI rfl | exact fS rfl))))
  refine WP_loop5 [5, 6, 7, 8, 9, 10, 11, 12, 13, 14, 15, 16, 17, 18, 19, 20, 21, 22, 23, 24, 25, 26, 27, 28, 29, 30, 31, 32, 33, 34, 35, 36, 37, 38] (fun (i bo : Nat) (z : List Nat) (st : Option Addr) (ct : Nat) F => ((F.put 7 (.int .i64 (i : Int))).put 6 (.int .i64 (bo : Int))).put 5 (.slice st z.length ct))
    (fun i bo z st ct w' => i ≤ (d24 x).length ∧ z.length = i ∧ Bd 16777216 z ∧ bo < 2 ∧ val 16777216 z + y % 16777216 ^ i = x % 16777216 ^ i + bo * 16777216 ^ i ∧ SVL st ct z ∧ Hp w [] w' [ownL eD 3 1 st ct z])
    (fun i _ _ _ _ => (d24 x).length - i) 0 0 [] none 0 (put_self (put_self (put_self (Same.eq .refl) rfl) rfl) rfl) ⟨Nat.zero_le _, rfl, .nil, by decide, by simp [val, Nat.mod_one], SVL.nil, hp⟩ ?_
  clear hp
  rintro u i bo z st ct w2 ⟨hi, hzl, hzb, hbo, hval, hv, hp⟩
  (repeat (first | (with_reducible first | apply WP_seq | apply WP_region | apply wpl_nil | apply thenQ_n) | (apply wlp; ((first | apply pv_move | (apply pf_len; exact rfl) | apply pv_lss) <;> exact rfl); (first | exact fI rfl | exact fB rfl | exact fS rfl))))
  refine WP_cond_d rfl (fun h2 => ?_) (fun h2 => ?_)
  · have hlt : i < (d24 x).length := by omega
    obtain ⟨b0, o0, hs0, hc0⟩ := hx.base (by omega)
    have hci := hc0 i _ (List.getElem?_eq_getElem hlt) 0 _ rfl
    have hbd := (d24_bd x).get hlt
    have hg := d24_get hlt
    generalize (d24 x)[i] = dx at hci hbd hg
    have hci : w.cell? ⟨b0, o0 + i * 1, none⟩ = some (.int .i64 (dx : Int)) := hci
    obtain ⟨dy, hgy, hbdy⟩ : ∃ dy, dy = y / 16777216 ^ i % 16777216 ∧ dy < 16777216 := ⟨_, rfl, Nat.mod_lt _ (by decide)⟩
    (repeat (first | (with_reducible first | apply WP_seq | apply WP_block | apply WP_region | apply thenQ_n | apply WP_skip) | (apply wlp; ((first | apply pv_move | (apply pf_load; exact rfl) | (apply pf_index; exact rfl)) <;> (first | exact rfl | assumption | exact hp.old0 (by assumption))); (first | exact fI rfl | exact fP rfl | exact fS rfl))))
    (apply wlp; exact pv_sub rfl rfl; exact int_eq (i64_in (by omega) (by omega)))
    (repeat (first | (with_reducible first | apply WP_seq | apply WP_region | apply wpl_nil | apply thenQ_n) | (apply wlp; ((first | apply pv_move | apply pv_assign | (apply pf_len; exact rfl) | apply pv_lss) <;> exact rfl); (first | exact fI rfl | exact fB rfl | exact fS rfl))))
    refine WP_cond_d rfl (fun h3 => ?_) (fun h3 => ?_)
    · have hlty : i < (d24 y).length := by omega
      obtain ⟨b1, o1, hs1, hc1⟩ := hy.base (by omega)
      have hcj := hc1 i _ (List.getElem?_eq_getElem hlty) 0 _ rfl
      have hg2 := d24_get hlty
      rw [← hgy] at hg2
      rw [hg2] at hcj
      have hcj : w.cell? ⟨b1, o1 + i * 1, none⟩ = some (.int .i64 (dy : Int)) := hcj
      (repeat (first | with_reducible apply WP_region | (apply wlp; ((first | apply pv_move | (apply pf_load; exact rfl) | (apply pf_index; exact rfl)) <;> (first | exact rfl | assumption | exact hp.old0 (by assumption))); (first | exact fI rfl | exact fP rfl | exact fS rfl))))
      (apply wlp; exact pv_sub rfl rfl; exact int_eq (i64_in (by omega) (by omega)))
      (repeat (first | (with_reducible first | apply WP_seq | apply WP_region | apply wpl_nil | apply thenQ_n) | (apply wlp; ((first | apply pv_move | apply pv_assign | apply pv_lss) <;> exact rfl); (first | exact fI rfl | exact fB rfl))))
      refine WP_cond_d rfl (fun h4 => ?_) (fun h4 => ?_)
      · obtain ⟨q, hq⟩ : ∃ q : Nat, (q : Int) = (dx : Int) - bo - dy + 16777216 := ⟨((dx : Int) - bo - dy + 16777216).toNat, by omega⟩
        (repeat (first | (with_reducible first | apply WP_seq | apply WP_region) | (apply wlp; apply pv_move; exact fI rfl)))
        (apply wlp; exact pv_add rfl rfl; exact int_eq (b := (q : Int)) (by rw [i64_in (by omega) (by omega)]; omega))
        (repeat (first | (with_reducible first | apply WP_region | apply wpl_nil | apply thenQ_n) | (apply wlp; (first | apply pv_move | apply pv_assign); (first | exact fI rfl | exact fS rfl))))
        (apply wls; exact sf_slice hp rfl rfl rfl rfl rfl rfl rfl; rintro _ w3 ⟨nb, rfl, hp⟩)
        (apply wls; exact sf_app1 eD z q hp 1 0 rfl rfl rfl rfl rfl rfl (fun _ => rfl) rfl rfl rfl hv rfl rfl (by omega); rintro _ w4 ⟨s', c', rfl, hv', hp⟩)
        have hp := hp.tail
        (repeat (first | (with_reducible first | apply WP_region | apply wpl_nil | apply thenQ_n | apply inBlk_n) | (apply wlp; (first | apply pv_move | apply pv_assign); (first | exact fI rfl | exact fS rfl))))
        (apply wlp; exact pv_add rfl rfl; exact int_eq (i64_in (by omega) (by omega)))
        (repeat (first | (with_reducible first | apply wpl_nil | apply thenQ_n) | (apply wlp; apply pv_assign; exact fI rfl)))
        refine ⟨i + 1, 1, z ++ [q], s', c', put_self (put_self (put_self (Same.eq (by repeat (first | exact Same.hav | exact Same.refl | refine Same.put rfl ?_ | refine Same.havs rfl ?_))) rfl) rfl) rfl, ⟨by omega, by simp [hzl], hzb.app (.cons (by omega) .nil), by omega, ?_, hv', hp⟩, by omega⟩
        rw [val_snoc, hzl]
        refine sub_step hval ?_
        rw [← hg, ← hgy]
        omega
      · obtain ⟨q, hq⟩ : ∃ q : Nat, (q : Int) = (dx : Int) - bo - dy := ⟨((dx : Int) - bo - dy).toNat, by omega⟩
        rw [← hq]
        (repeat (first | (with_reducible first | apply WP_region | apply thenQ_n | apply WP_skip) | (apply wlp; apply pv_move; (first | exact fI rfl | exact fS rfl))))
        (apply wls; exact sf_slice hp rfl rfl rfl rfl rfl rfl rfl; rintro _ w3 ⟨nb, rfl, hp⟩)
        (apply wls; exact sf_app1 eD z q hp 1 0 rfl rfl rfl rfl rfl rfl (fun _ => rfl) rfl rfl rfl hv rfl rfl (by omega); rintro _ w4 ⟨s', c', rfl, hv', hp⟩)
        have hp := hp.tail
        (repeat (first | (with_reducible first | apply WP_region | apply wpl_nil | apply thenQ_n | apply inBlk_n) | (apply wlp; (first | apply pv_move | apply pv_assign); (first | exact fI rfl | exact fS rfl))))
        (apply wlp; exact pv_add rfl rfl; exact int_eq (i64_in (by omega) (by omega)))
        (repeat (first | (with_reducible first | apply wpl_nil | apply thenQ_n) | (apply wlp; apply pv_assign; exact fI rfl)))
        refine ⟨i + 1, 0, z ++ [q], s', c', put_self (put_self (put_self (Same.eq (by repeat (first | exact Same.hav | exact Same.refl | refine Same.put rfl ?_ | refine Same.havs rfl ?_))) rfl) rfl) rfl, ⟨by omega, by simp [hzl], hzb.app (.cons (by omega) .nil), by omega, ?_, hv', hp⟩, by omega⟩
        rw [val_snoc, hzl]
        refine sub_step hval ?_
        rw [← hg, ← hgy]
        omega
    · have hdy : dy = 0 := by rw [hgy]; exact d24_beyond (by omega)
      (repeat (first | (with_reducible first | apply WP_seq | apply WP_region | apply wpl_nil | apply thenQ_n | apply WP_skip) | (apply wlp; ((first | apply pv_move | apply pv_assign | apply pv_lss) <;> exact rfl); (first | exact fI rfl | exact fB rfl))))
      refine WP_cond_d rfl (fun h4 => ?_) (fun h4 => ?_)
      · obtain ⟨q, hq⟩ : ∃ q : Nat, (q : Int) = (dx : Int) - bo + 16777216 := ⟨((dx : Int) - bo + 16777216).toNat, by omega⟩
        (repeat (first | (with_reducible first | apply WP_seq | apply WP_region) | (apply wlp; apply pv_move; exact fI rfl)))
        (apply wlp; exact pv_add rfl rfl; exact int_eq (b := (q : Int)) (by rw [i64_in (by omega) (by omega)]; omega))
        (repeat (first | (with_reducible first | apply WP_region | apply wpl_nil | apply thenQ_n) | (apply wlp; (first | apply pv_move | apply pv_assign); (first | exact fI rfl | exact fS rfl))))
        (apply wls; exact sf_slice hp rfl rfl rfl rfl rfl rfl rfl; rintro _ w3 ⟨nb, rfl, hp⟩)
        (apply wls; exact sf_app1 eD z q hp 1 0 rfl rfl rfl rfl rfl rfl (fun _ => rfl) rfl rfl rfl hv rfl rfl (by omega); rintro _ w4 ⟨s', c', rfl, hv', hp⟩)
        have hp := hp.tail
        (repeat (first | (with_reducible first | apply WP_region | apply wpl_nil | apply thenQ_n | apply inBlk_n) | (apply wlp; (first | apply pv_move | apply pv_assign); (first | exact fI rfl | exact fS rfl))))
        (apply wlp; exact pv_add rfl rfl; exact int_eq (i64_in (by omega) (by omega)))
        (repeat (first | (with_reducible first | apply wpl_nil | apply thenQ_n) | (apply wlp; apply pv_assign; exact fI rfl)))
        refine ⟨i + 1, 1, z ++ [q], s', c', put_self (put_self (put_self (Same.eq (by repeat (first | exact Same.hav | exact Same.refl | refine Same.put rfl ?_ | refine Same.havs rfl ?_))) rfl) rfl) rfl, ⟨by omega, by simp [hzl], hzb.app (.cons (by omega) .nil), by omega, ?_, hv', hp⟩, by omega⟩
        rw [val_snoc, hzl]
        refine sub_step hval ?_
        rw [← hg, ← hgy]
        omega
      · obtain ⟨q, hq⟩ : ∃ q : Nat, (q : Int) = (dx : Int) - bo := ⟨((dx : Int) - bo).toNat, by omega⟩
        rw [← hq]
        (repeat (first | (with_reducible first | apply WP_region | apply thenQ_n | apply WP_skip) | (apply wlp; apply pv_move; (first | exact fI rfl | exact fS rfl))))
        (apply wls; exact sf_slice hp rfl rfl rfl rfl rfl rfl rfl; rintro _ w3 ⟨nb, rfl, hp⟩)
        (apply wls; exact sf_app1 eD z q hp 1 0 rfl rfl rfl rfl rfl rfl (fun _ => rfl) rfl rfl rfl hv rfl rfl (by omega); rintro _ w4 ⟨s', c', rfl, hv', hp⟩)
        have hp := hp.tail
        (repeat (first | (with_reducible first | apply WP_region | apply wpl_nil | apply thenQ_n | apply inBlk_n) | (apply wlp; (first | apply pv_move | apply pv_assign); (first | exact fI rfl | exact fS rfl))))
        (apply wlp; exact pv_add rfl rfl; exact int_eq (i64_in (by omega) (by omega)))
        (repeat (first | (with_reducible first | apply wpl_nil | apply thenQ_n) | (apply wlp; apply pv_assign; exact fI rfl)))
        refine ⟨i + 1, 0, z ++ [q], s', c', put_self (put_self (put_self (Same.eq (by repeat (first | exact Same.hav | exact Same.refl | refine Same.put rfl ?_ | refine Same.havs rfl ?_))) rfl) rfl) rfl, ⟨by omega, by simp [hzl], hzb.app (.cons (by omega) .nil), by omega, ?_, hv', hp⟩, by omega⟩
        rw [val_snoc, hzl]
        refine sub_step hval ?_
        rw [← hg, ← hgy]
        omega
  · obtain rfl : i = (d24 x).length := by omega
    have hV : val 16777216 z = x - y := by
      have hzlt := val_lt hzb
      rw [hzl] at hzlt
      exact sub_end hval (d24_lt (Nat.le_refl _)) hyx hzlt
    have hst : SlAt w2 1 eD st z := ownL_At hp 0 rfl hv (fun _ => rfl)
    have htz : trimL z = d24 (x - y) := by rw [trim_d24 hzb, hV]
    have h89 := c89 z st ct w2 hv.cap (by omega) hst
    rw [htz] at h89
    (repeat (first | (with_reducible first | apply WP_seq | apply WP_region | apply thenQ_n | apply thenQ_exit | apply WP_exit) | ((with_reducible apply inBlk_same); exact rfl) | (apply wlp; apply pv_move; exact fS rfl)))
    (apply wls; exact st_call rfl ent89 rfl h89; rintro _ w3 ⟨rfl, hk⟩; have hp := hp.call hk)
    (repeat (first | (with_reducible first | apply wpl_nil | apply thenQ_n | apply WP_ret) | (apply wlp; apply pv_assign; exact fS rfl)))
    refine ret_tmp rfl rfl ⟨_, rfl, st, ct, rfl, ?_, ?_, hp.keeps⟩
    · rw [← htz]
      exact Nat.le_trans (trimL_pre z).length_le hv.cap
    · rw [← htz]
      exact (hst.pre (trimL_pre z)).keep0 hk
theorem c51 (x y : Nat) (w : World) (hx : Fit x) (hy : Fit y) : Ret Tryd.prog 51 [.string (ofN x), .string (ofN y)] w (fun v w' => v = .tuple #[.string (ofN (x - y)), .bool (decide (y ≤ x))] ∧ Keeps [] w w') := by
  refine Ret.of_WP Tryd.func51 rfl Tryd.ntmps51 rfl ?_
  have hp := Hp.start (M := []) (w := w)
  (repeat (first | (with_reducible first | apply WP_seq | apply WP_region | apply wpl_nil | apply thenQ_n) | (apply wlp; (first | apply pv_move | apply pv_assign); (first | exact fB rfl | exact fT rfl))))
  (apply wls; exact st_call rfl ent50 rfl (c50 x y _ hx hy); rintro _ w1 ⟨rfl, hk⟩; have hp := hp.call hk)
  by_cases hlt : x < y
  · rw [if_pos hlt]
    (repeat (first | (with_reducible first | apply wpl_nil | apply thenQ_n) | (apply wlp; (apply pv_lss <;> exact rfl); exact fB rfl)))
    refine WP_cond_t rfl ?_
    have e0 : x - y = 0 := by omega
    have e1 : decide (y ≤ x) = false := decide_eq_false (by omega)
    (repeat (first | (with_reducible first | apply WP_seq | apply WP_region | apply wpl_nil | apply thenQ_n | apply thenQ_ret | apply WP_ret) | (apply wlp; apply pv_assign; (first | exact fB rfl | exact fT rfl))))
    exact ret_tmp2 rfl rfl rfl ⟨_, rfl, by rw [e0, e1]; rfl, hp.keeps⟩
  · (apply wlp; exact pv_lss rfl rfl; exact bool_eq (b := false) (decide_eq_false (by rw [if_neg hlt]; split <;> omega)))
    (repeat (with_reducible first | apply wpl_nil | apply thenQ_n))
    refine WP_cond_f rfl ?_
    (repeat (first | (with_reducible first | apply WP_seq | apply WP_region | apply thenQ_n | apply WP_skip) | (apply wlp; apply pv_move; exact fT rfl)))
    (apply wls; exact st_call rfl ent69 rfl (c69 x _ hx); rintro _ w2 ⟨s, c, rfl, hv, hpo⟩)
    have hsx : SlAt w2 1 eD s (d24 x) := ownL_At hpo 0 rfl hv (fun _ => rfl)
    have hp := hp.call hpo.keeps
    clear hpo
    (repeat (apply wlp; apply pv_move; exact fT rfl))
    (apply wls; exact st_call rfl ent69 rfl (c69 y _ hy); rintro _ w3 ⟨s2, c2, rfl, hv2, hpo⟩)
    have hsy : SlAt w3 1 eD s2 (d24 y) := ownL_At hpo 0 rfl hv2 (fun _ => rfl)
    have hsx := hsx.keep0 hpo.keeps
    have hp := hp.call hpo.keeps
    clear hpo
    (apply wls; exact st_call rfl ent73 rfl (c73 x y s s2 c c2 _ hsx hsy hx.d24 hy.d24 (by omega)); rintro _ w4 ⟨s3, c3, rfl, _, hs3, hk⟩; have hp := hp.call hk)
    have h70 := c70 (d24 (x - y)) s3 c3 w4 hs3 (d24_bd _) (hx.le (Nat.sub_le x y)).d24
    rw [d24_val] at h70
    (apply wls; exact st_call rfl ent70 rfl h70; rintro _ w5 ⟨rfl, hk⟩; have hp := hp.call hk)
    have e1 : decide (y ≤ x) = true := decide_eq_true (by omega)
    (repeat (first | (with_reducible first | apply wpl_nil | apply thenQ_n | apply WP_ret) | (apply wlp; apply pv_assign; (first | exact fB rfl | exact fT rfl))))
    exact ret_tmp2 rfl rfl rfl ⟨_, rfl, by rw [e1]; rfl, hp.keeps⟩
end Go.Proofs.YteklkjnhefnimaaDoor
