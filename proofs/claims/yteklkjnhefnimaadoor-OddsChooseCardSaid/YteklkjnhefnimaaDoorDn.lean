/- nat: takeAway, putBack; conditions: lists in memory, the divisor in another block. -/
import Derived.Test.YteklkjnhefnimaaDoorDm
namespace Go.Proofs.YteklkjnhefnimaaDoor
open Go.Eng Go.Dig

theorem WP_loop4 {P : Program} {n : Nat} {Q : Exit → Fr → World → Prop} {F : Fr} {w : World} {c : Code} {X Y Z T : Type} (S : List Nat) (H : X → Y → Z → T → Fr → Fr) (I : X → Y → Z → T → World → Prop) (μ : X → Y → Z → T → Nat) (x0 : X) (y0 : Y) (z0 : Z) (t0 : T) (h0 : F = H x0 y0 z0 t0 (Fr.hav S F F)) (hi : I x0 y0 z0 t0 w)
    (round : ∀ (u : Fr) (x : X) (y : Y) (z : Z) (t : T) (w : World), I x y z t w → WP P n c (thenQ (fun F' w' => ∃ x' y' z' t', F' = H x' y' z' t' (Fr.hav S F' F) ∧ I x' y' z' t' w' ∧ μ x' y' z' t' < μ x y z t) Q) (H x y z t (Fr.hav S u F)) w) : WP P n (.loop c) Q F w := by
  refine WP_loopS S (fun (x : X × Y × Z × T) => H x.1 x.2.1 x.2.2.1 x.2.2.2) (fun x => I x.1 x.2.1 x.2.2.1 x.2.2.2) (fun x => μ x.1 x.2.1 x.2.2.1 x.2.2.2) (x0, y0, z0, t0) h0 hi ?_
  intro u x w hI
  refine WP_mono (round u x.1 x.2.1 x.2.2.1 x.2.2.2 w hI) ?_
  intro e F w h
  cases e with
  | normal =>
    obtain ⟨x', y', z', t', h1, h2, h3⟩ := h
    exact ⟨(x', y', z', t'), h1, h2, h3⟩
  | _ => exact h
section
variable {P : Program} {n : Nat} {w0 w : World} {M : List Nat} {L : List Ent} {F : Fr} {d : Option Tmp} {ty : TypeId} {pos : String} {aft : Array Edge} {g : Option (Nat × Bool)} {x y : Operand}
theorem st_setAt {α : Type} (enc : α → List Value) (l : List α) (i : Nat) (xv : α) {t e gb c off : Nat} {v : Value} (hp : Hp w0 M w L) (j : Nat) (hj : L[j]? = some (ownL enc e 1 (some ⟨gb, 0, none⟩) c l)) (hvl : SVL (some ⟨gb, 0, none⟩) c l) (hi : i < l.length)
    (hx : ev n F x = .pointer (some ⟨gb, off, none⟩)) (hoff : off = i) (hy : ev n F y = v) (hk : ∀ x, (enc x).length = 1) (hv : enc xv = [v]) (h1 : oneV v = true) (hz : TSize P t 1) :
    StepF P n ⟨d, .store t x y, ty, pos, aft, g⟩ F w (fun u w' => u = undef ∧ Hp w0 M w' (L.set j (ownL enc e 1 (some ⟨gb, 0, none⟩) c (l.set i xv)))) :=
  st_setL enc l i xv hp j hj hvl hi (by rw [hx, hoff, Nat.zero_add, Nat.mul_one]) hy hk hv h1 hz
theorem pn_and64 {a b k t t' : Nat} (hx : ev n F x = .int .u64 (a : Int)) (hy : ev n F y = .int .u64 (b : Int)) (ha : a < 18446744073709551616) (hb : b = 2 ^ k - 1) (hk : k ≤ 64) : PV P n w F ⟨d, .binOp .and t x y t', ty, pos, aft, g⟩ (.int .u64 ((a % 2 ^ k : Nat) : Int)) := by
  have hb2 : b < 18446744073709551616 := by
    have h2 : 2 ^ k ≤ 2 ^ 64 := Nat.pow_le_pow_right (by decide) hk
    have h3 : 0 < 2 ^ k := Nat.pow_pos (by decide)
    have h4 : (2 : Nat) ^ 64 = 18446744073709551616 := by decide
    omega
  have h1 : (BitVec.ofInt 64 (a : Int) &&& BitVec.ofInt 64 (b : Int)).toNat = a % 2 ^ k := by
    rw [BitVec.toNat_and, bv_nat 64 a ha, bv_nat 64 b hb2, hb, Nat.and_two_pow_sub_one_eq_mod]
  have h3 := u64_in (Nat.lt_of_le_of_lt (Nat.mod_le a (2 ^ k)) ha)
  simp only [PV, execOp, hx, hy, eqGuard, binOp, Op.intBits]
  show Sem.run P (pure (Next.value (Value.int IntKind.u64 (IntKind.u64.wrap ((BitVec.ofInt 64 (a : Int) &&& BitVec.ofInt 64 (b : Int)).toNat : Int))))) w = _
  rw [h1, h3]
  rfl
end
theorem take_fit {cy G d : Nat} (hc : cy < 4294967296) (hG : G ≤ 4294967296) (hd : d < 4294967296) : cy + G * d < 18446744073709551616 := by
  have : G * d ≤ 4294967296 * 4294967295 := Nat.mul_le_mul hG (by omega)
  omega
theorem take_end {b V u v G n cy bo zn B : Nat} (h : V + G * (v % b ^ n) = u % b ^ n + (cy + bo) * b ^ n) (hv : v < b ^ n) (hu : u < b ^ (n + 1)) (hz : zn + cy + bo = u / b ^ n % b + b * B) : (V + b ^ n * zn) + G * v = u + B * b ^ (n + 1) := by
  have h1 := mod_step b u n
  rw [Nat.mod_eq_of_lt hu] at h1
  rw [Nat.mod_eq_of_lt hv] at h
  have h2 := congrArg (b ^ n * ·) hz
  simp only [Nat.mul_add] at h2
  have e1 : B * b ^ (n + 1) = b ^ n * (b * B) := by rw [Nat.pow_succ, Nat.mul_comm, Nat.mul_assoc]
  have e2 : (cy + bo) * b ^ n = b ^ n * cy + b ^ n * bo := by rw [Nat.add_mul, Nat.mul_comm cy, Nat.mul_comm bo]
  rw [e1]
  rw [e2] at h
  omega
theorem put_end {b V m v n cy : Nat} (hb : 0 < b) (h : V + cy * b ^ n = m % b ^ n + v % b ^ n) (hV : V < b ^ n) (hv : v < b ^ n) (hm : m < b ^ (n + 1)) : V + b ^ n * ((m / b ^ n % b + cy) % b) = (m + v) % b ^ (n + 1) := by
  have h1 := mod_step b m n
  rw [Nat.mod_eq_of_lt hm] at h1
  rw [Nat.mod_eq_of_lt hv] at h
  have e : m + v = V + b ^ n * (m / b ^ n % b + cy) := by
    rw [Nat.mul_add, Nat.mul_comm (b ^ n) cy]
    omega
  have hp : 0 < b ^ n := Nat.pow_pos hb
  rw [e, mod_step b _ n, Nat.add_mul_mod_self_left, Nat.mod_eq_of_lt hV, Nat.add_mul_div_left _ _ hp, Nat.div_eq_of_lt hV, Nat.zero_add]

attribute [local irreducible] PV StepF wpl wpd WP Ret

theorem c78 (A m C vl : List Nat) (G g c cu cv : Nat) (sv : Option Addr) (w : World) (o : Obj) (ho : w.heap[g]? = some o) (hou : (ownL eW 93 1 (some ⟨g, 0, none⟩) c (A ++ m ++ C)).2 o) (hvl : SVL (some ⟨g, 0, none⟩) c (A ++ m ++ C))
    (hs : SlAt w 1 eW sv vl) (hne : ∀ b o, sv = some ⟨b, o, none⟩ → b ≠ g) (hbm : Bd 4294967296 m) (hbv : Bd 4294967296 vl) (hml : m.length = vl.length + 1) (hG : G ≤ 4294967296) (hl : vl.length ≤ 100000) :
    Ret Tryd.prog 78 [.slice (some ⟨g, 0 + A.length * 1, none⟩) (vl.length + 1) cu, .slice sv vl.length cv, .int .u64 (G : Int)] w (fun v w' => ∃ z B, v = .bool (decide (((B : Nat) : Int) = 1)) ∧ B ≤ 1 ∧ z.length = m.length ∧ Bd 4294967296 z ∧ val 4294967296 z + G * val 4294967296 vl = val 4294967296 m + B * 4294967296 ^ (vl.length + 1) ∧ Keeps [g] w w' ∧ ∃ o, w'.heap[g]? = some o ∧ (ownL eW 93 1 (some ⟨g, 0, none⟩) c (A ++ z ++ C)).2 o) := by
  have hvv := val_lt hbv
  have hmm := val_lt hbm
  rw [hml] at hmm
  refine Ret.of_WP Tryd.func78 rfl Tryd.ntmps78 rfl ?_
  have hp : Hp w [g] w [ownL eW 93 1 (some ⟨g, 0, none⟩) c (A ++ m ++ C)] := Hp.adopt Hp.start (by simp) ho hou (by simp)
  (repeat (first | (with_reducible first | apply WP_seq | apply WP_block | apply WP_region | apply wpl_nil | apply thenQ_n) | (apply wlp; ((first | apply pv_move | apply pv_assign | (apply pf_len; exact rfl)) <;> exact rfl); (first | exact fI rfl | exact fB rfl | exact fS rfl))))
  refine WP_loop4 [7, 8, 9, 10, 11, 15, 16, 17, 18, 19, 20, 21, 22, 23, 24, 25, 26, 27, 28, 29, 30, 31, 32, 33, 34, 35, 36, 37, 38, 39, 40, 41, 42, 43, 44, 45] (fun (i cy bo : Nat) (_z : List Nat) F => ((F.put 15 (.int .i64 i)).put 7 (.int .u64 (cy : Int))).put 8 (.int .u64 (bo : Int)))
    (fun i cy bo z w' => i ≤ vl.length ∧ z.length = vl.length + 1 ∧ Bd 4294967296 z ∧ Tl z m i ∧ cy < 4294967296 ∧ bo < 2 ∧ val 4294967296 (z.take i) + G * (val 4294967296 vl % 4294967296 ^ i) = val 4294967296 m % 4294967296 ^ i + (cy + bo) * 4294967296 ^ i ∧ SVL (some ⟨g, 0, none⟩) c (A ++ z ++ C) ∧ Hp w [g] w' [ownL eW 93 1 (some ⟨g, 0, none⟩) c (A ++ z ++ C)])
    (fun i _ _ _ => vl.length - i) 0 0 0 m (put_self (put_self (put_self (Same.eq .refl) rfl) rfl) rfl) ⟨Nat.zero_le _, hml, hbm, rfl, by decide, by decide, by simp [val, Nat.mod_one], hvl, hp⟩ ?_
  clear hp hvl ho hou
  rintro u i cy bo z w3 ⟨hi, hzl, hzb, htl, hcy, hbo, hval, hv, hp⟩
  (repeat (first | (with_reducible first | apply WP_seq | apply WP_region | apply wpl_nil | apply thenQ_n) | (apply wlp; (apply pv_lss <;> exact rfl); exact fB rfl)))
  refine WP_cond_d rfl (fun h2 => ?_) (fun h2 => ?_)
  · have hlt : i < vl.length := by omega
    have hlt1 : i < vl.length + 1 := by omega
    have hiz : i < z.length := by omega
    have him : i < m.length := by omega
    obtain ⟨b0, o0, hs0, hc0⟩ := hs.base (by omega)
    have hnb := hne b0 o0 hs0
    have hci := hp.old (hc0 i _ (List.getElem?_eq_getElem hlt) 0 _ rfl) (by simpa using hnb)
    have hbd := hbv.get hlt
    have hg := l_get hbv hlt
    generalize vl[i] = dv at hci hbd hg
    have hcz := own_elem hp 0 rfl hv (fun _ => rfl) (get_mid (A := A) (C := C) hiz) 0 _ rfl
    have hdu := htl.get hiz him
    have hgm := l_get hbm him
    have hzo := hzb.get hiz
    rw [← hdu] at hgm
    generalize z[i] = du at hcz hgm hzo
    have hcz : w3.cell? ⟨g, 0 + A.length * 1 + i * 1, none⟩ = some (.int .u32 (du : Int)) := by
      rw [show 0 + A.length * 1 + i * 1 = 0 + (A.length + i) * 1 + 0 from by omega]
      exact hcz
    have hT := take_fit hcy hG hbd
    have hGd : G * dv < 18446744073709551616 := Nat.lt_of_le_of_lt (Nat.le_add_left _ cy) hT
    have hT2 : ∃ T, T = cy + G * dv := ⟨_, rfl⟩
    obtain ⟨T, hTe⟩ := hT2
    (repeat (first | (with_reducible first | apply WP_seq | apply WP_block | apply WP_region | apply wpl_nil | apply thenQ_n | apply WP_skip) | (apply wlp; ((first | apply pv_move | apply pv_assign | (apply pf_load; exact rfl) | (apply pf_index; exact rfl) | exact pn_64of32 rfl rfl rfl (by assumption)) <;> (first | exact rfl | assumption)); (first | exact fI rfl | exact fP rfl))))
    (apply wlp; exact pn_mul64 rfl rfl hGd; exact fI rfl)
    (apply wlp; exact pn_add64 rfl rfl hT; exact int_eq (b := (T : Int)) (by rw [hTe]))
    rw [← hTe] at hT
    (repeat (first | (with_reducible first | apply WP_seq | apply WP_region | apply wpl_nil | apply thenQ_n) | (apply wlp; ((first | apply pv_move | apply pv_assign | (apply pf_load; exact rfl) | (apply pf_index; exact rfl) | exact pn_64of32 rfl rfl rfl (by assumption)) <;> (first | exact rfl | assumption)); (first | exact fI rfl | exact fP rfl | exact fS rfl))))
    (apply wlp; exact pn_and64 (k := 32) rfl rfl hT rfl (by decide); exact int_eq (b := ((T % 4294967296 : Nat) : Int)) rfl)
    (apply wlp; exact pn_sub64 rfl rfl (by omega); exact fI rfl)
    (repeat (apply wlp; apply pv_move; exact fI rfl))
    (apply wlp; exact pn_sub64 rfl rfl (by omega); exact fI rfl)
    have hD : ∃ D z0, D = sb64 (sb64 du (T % 4294967296)) bo ∧ z0 = D % 4294967296 := ⟨_, _, rfl, rfl⟩
    obtain ⟨D, z0, hDe, hz0⟩ := hD
    rw [← hDe]
    unfold sb64 at hDe
    (repeat (first | (with_reducible first | apply WP_seq | apply WP_region | apply wpl_nil | apply thenQ_n) | (apply wlp; ((first | apply pv_move | apply pv_assign | (apply pf_index; exact rfl) | exact pn_32of rfl rfl rfl) <;> (first | exact rfl | assumption)); (first | exact fI rfl | exact fP rfl | exact fS rfl))))
    (apply wls0; exact st_setAt eW _ (A.length + i) (D % 4294967296) hp 0 rfl hv (by simp; omega) rfl (by omega) rfl (fun _ => rfl) rfl rfl (sizeTy_ok rfl); rintro _ w4 ⟨rfl, hp⟩)
    have hv := hv.set (A.length + i) (D % 4294967296)
    rw [set_mid hiz] at hv
    simp only [List.set_cons_zero] at hp
    rw [set_mid hiz, ← hz0] at hp
    rw [← hz0] at hv
    (repeat (first | (with_reducible first | apply WP_seq | apply WP_region | apply wpl_nil | apply thenQ_n) | (apply wlp; apply pv_move; exact fI rfl)))
    (apply wlp; exact pn_shr (b := 63) rfl rfl (by decide); exact int_eq (b := ((D / 9223372036854775808 : Nat) : Int)) rfl)
    (repeat (first | (with_reducible first | apply WP_region | apply wpl_nil | apply thenQ_n) | (apply wlp; (first | apply pv_move | apply pv_assign); exact fI rfl)))
    (apply wlp; exact pn_shr (b := 32) rfl rfl (by decide); exact int_eq (b := ((T / 4294967296 : Nat) : Int)) rfl)
    (repeat (first | (with_reducible first | apply WP_region | apply wpl_nil | apply thenQ_n | apply inBlk_n) | (apply wlp; apply pv_assign; exact fI rfl)))
    (apply wlp; exact pv_add rfl rfl; exact int_eq (i64_in (by omega) (by omega)))
    (repeat (first | (with_reducible first | apply wpl_nil | apply thenQ_n) | (apply wlp; apply pv_move; exact fI rfl)))
    refine ⟨i + 1, T / 4294967296, D / 9223372036854775808, z.set i z0, put_self (put_self (put_self (Same.eq (by repeat (first | exact Same.hav | exact Same.refl | refine Same.put rfl ?_ | refine Same.havs rfl ?_))) rfl) rfl) rfl, ⟨by omega, ?_, hzb.set (by omega), htl.set hiz him, by omega, by omega, ?_, hv, hp⟩, by omega⟩
    · rw [List.length_set, hzl]
    · rw [val_take_set hiz]
      refine take_step hval (T := T) (lo := T % 4294967296) (by rw [hTe, hg]) (by omega) ?_
      rw [← hgm]
      omega
  · obtain rfl : i = vl.length := by omega
    have hlt1 : vl.length < vl.length + 1 := by omega
    have hiz : vl.length < z.length := by omega
    have him : vl.length < m.length := by omega
    have hcz := own_elem hp 0 rfl hv (fun _ => rfl) (get_mid (A := A) (C := C) hiz) 0 _ rfl
    have hdu := htl.get hiz him
    have hgm := l_get hbm him
    have hzo := hzb.get hiz
    rw [← hdu] at hgm
    generalize z[vl.length] = du at hcz hgm hzo
    have hcz : w3.cell? ⟨g, 0 + A.length * 1 + vl.length * 1, none⟩ = some (.int .u32 (du : Int)) := by
      rw [show 0 + A.length * 1 + vl.length * 1 = 0 + (A.length + vl.length) * 1 + 0 from by omega]
      exact hcz
    (repeat (first | (with_reducible first | apply WP_seq | apply WP_region | apply thenQ_n | apply thenQ_exit | apply WP_exit) | ((with_reducible apply inBlk_same); exact rfl) | (apply wlp; ((first | apply pv_move | (apply pf_load; exact rfl) | (apply pf_len; exact rfl) | (apply pf_index; exact rfl) | exact pn_64of32 rfl rfl rfl (by assumption)) <;> (first | exact rfl | assumption)); (first | exact fI rfl | exact fP rfl | exact fS rfl))))
    (apply wlp; exact pn_sub64 rfl rfl (by omega); exact fI rfl)
    (repeat (apply wlp; apply pv_move; exact fI rfl))
    (apply wlp; exact pn_sub64 rfl rfl (by omega); exact fI rfl)
    have hD : ∃ D z0, D = sb64 (sb64 du cy) bo ∧ z0 = D % 4294967296 := ⟨_, _, rfl, rfl⟩
    obtain ⟨D, z0, hDe, hz0⟩ := hD
    rw [← hDe]
    unfold sb64 at hDe
    (repeat (first | (with_reducible first | apply WP_seq | apply WP_region | apply wpl_nil | apply thenQ_n) | (apply wlp; ((first | apply pv_move | apply pv_assign | (apply pf_len; exact rfl) | (apply pf_index; exact rfl) | exact pn_32of rfl rfl rfl) <;> (first | exact rfl | assumption)); (first | exact fI rfl | exact fP rfl | exact fS rfl))))
    (apply wls0; exact st_setAt eW _ (A.length + vl.length) (D % 4294967296) hp 0 rfl hv (by simp; omega) rfl (by omega) rfl (fun _ => rfl) rfl rfl (sizeTy_ok rfl); rintro _ w4 ⟨rfl, hp⟩)
    simp only [List.set_cons_zero] at hp
    rw [set_mid hiz, ← hz0] at hp
    (repeat (first | (with_reducible first | apply WP_seq | apply WP_region | apply wpl_nil | apply thenQ_n) | (apply wlp; apply pv_move; exact fI rfl)))
    (apply wlp; exact pn_shr (b := 63) rfl rfl (by decide); exact int_eq (b := ((D / 9223372036854775808 : Nat) : Int)) rfl)
    (repeat (first | (with_reducible first | apply wpl_nil | apply thenQ_n | apply WP_ret) | (apply wlp; ((first | apply pv_assign | (apply pv_eql; (first | exact rfl | exact ev_sel rfl (by assumption)))) <;> exact rfl); exact fB rfl)))
    refine ret_tmp rfl rfl ⟨_, rfl, z.set vl.length z0, D / 9223372036854775808, rfl, by omega, ?_, hzb.set (by omega), ?_, hp.keeps, hp.has 0 _ rfl g rfl⟩
    · rw [List.length_set, hzl, hml]
    · have h1 := val_take_set (b := 4294967296) (d := z0) hiz
      rw [List.take_of_length_le (by simp; omega)] at h1
      rw [h1]
      refine take_end hval hvv hmm ?_
      rw [← hgm]
      omega

theorem c79 (A m C vl : List Nat) (g c cu cv : Nat) (sv : Option Addr) (w : World) (o : Obj) (ho : w.heap[g]? = some o) (hou : (ownL eW 93 1 (some ⟨g, 0, none⟩) c (A ++ m ++ C)).2 o) (hvl : SVL (some ⟨g, 0, none⟩) c (A ++ m ++ C))
    (hs : SlAt w 1 eW sv vl) (hne : ∀ b o, sv = some ⟨b, o, none⟩ → b ≠ g) (hbm : Bd 4294967296 m) (hbv : Bd 4294967296 vl) (hml : m.length = vl.length + 1) (hl : vl.length ≤ 100000) :
    Ret Tryd.prog 79 [.slice (some ⟨g, 0 + A.length * 1, none⟩) (vl.length + 1) cu, .slice sv vl.length cv] w (fun _ w' => ∃ z, z.length = m.length ∧ Bd 4294967296 z ∧ val 4294967296 z = (val 4294967296 m + val 4294967296 vl) % 4294967296 ^ (vl.length + 1) ∧ Keeps [g] w w' ∧ ∃ o, w'.heap[g]? = some o ∧ (ownL eW 93 1 (some ⟨g, 0, none⟩) c (A ++ z ++ C)).2 o) := by
  have hvv := val_lt hbv
  have hmm := val_lt hbm
  rw [hml] at hmm
  refine Ret.of_WP Tryd.func79 rfl Tryd.ntmps79 rfl ?_
  have hp : Hp w [g] w [ownL eW 93 1 (some ⟨g, 0, none⟩) c (A ++ m ++ C)] := Hp.adopt Hp.start (by simp) ho hou (by simp)
  (repeat (first | (with_reducible first | apply WP_seq | apply WP_block | apply WP_region | apply wpl_nil | apply thenQ_n) | (apply wlp; ((first | apply pv_move | apply pv_assign | (apply pf_len; exact rfl)) <;> exact rfl); (first | exact fI rfl | exact fS rfl))))
  refine WP_loop3 [4, 5, 6, 9, 10, 11, 12, 13, 14, 15, 16, 17, 18, 19, 20, 21, 22, 23, 24, 25, 26, 27, 28, 29, 30, 31] (fun (i cy : Nat) (_z : List Nat) F => (F.put 9 (.int .i64 i)).put 4 (.int .u64 (cy : Int)))
    (fun i cy z w' => i ≤ vl.length ∧ z.length = vl.length + 1 ∧ Bd 4294967296 z ∧ Tl z m i ∧ cy < 2 ∧ val 4294967296 (z.take i) + cy * 4294967296 ^ i = val 4294967296 m % 4294967296 ^ i + val 4294967296 vl % 4294967296 ^ i ∧ SVL (some ⟨g, 0, none⟩) c (A ++ z ++ C) ∧ Hp w [g] w' [ownL eW 93 1 (some ⟨g, 0, none⟩) c (A ++ z ++ C)])
    (fun i _ _ => vl.length - i) 0 0 m (put_self (put_self (Same.eq .refl) rfl) rfl) ⟨Nat.zero_le _, hml, hbm, rfl, by decide, by simp [val, Nat.mod_one], hvl, hp⟩ ?_
  clear hp hvl ho hou
  rintro u i cy z w3 ⟨hi, hzl, hzb, htl, hcy, hval, hv, hp⟩
  (repeat (first | (with_reducible first | apply WP_seq | apply WP_region | apply wpl_nil | apply thenQ_n) | (apply wlp; (apply pv_lss <;> exact rfl); exact fB rfl)))
  refine WP_cond_d rfl (fun h2 => ?_) (fun h2 => ?_)
  · have hlt : i < vl.length := by omega
    have hlt1 : i < vl.length + 1 := by omega
    have hiz : i < z.length := by omega
    have him : i < m.length := by omega
    obtain ⟨b0, o0, hs0, hc0⟩ := hs.base (by omega)
    have hnb := hne b0 o0 hs0
    have hci := hp.old (hc0 i _ (List.getElem?_eq_getElem hlt) 0 _ rfl) (by simpa using hnb)
    have hbd := hbv.get hlt
    have hg := l_get hbv hlt
    generalize vl[i] = dv at hci hbd hg
    have hcz := own_elem hp 0 rfl hv (fun _ => rfl) (get_mid (A := A) (C := C) hiz) 0 _ rfl
    have hdu := htl.get hiz him
    have hgm := l_get hbm him
    have hzo := hzb.get hiz
    rw [← hdu] at hgm
    generalize z[i] = du at hcz hgm hzo
    have hcz : w3.cell? ⟨g, 0 + A.length * 1 + i * 1, none⟩ = some (.int .u32 (du : Int)) := by
      rw [show 0 + A.length * 1 + i * 1 = 0 + (A.length + i) * 1 + 0 from by omega]
      exact hcz
    (repeat (first | (with_reducible first | apply WP_seq | apply WP_block | apply WP_region | apply wpl_nil | apply thenQ_n | apply WP_skip) | (apply wlp; ((first | apply pv_move | apply pv_assign | (apply pf_load; exact rfl) | (apply pf_index; exact rfl) | exact pn_64of32 rfl rfl rfl (by assumption)) <;> (first | exact rfl | assumption)); (first | exact fI rfl | exact fP rfl | exact fS rfl))))
    (apply wlp; exact pn_add64 rfl rfl (by omega); exact fI rfl)
    (apply wlp; exact pn_add64 rfl rfl (by omega); exact fI rfl)
    (repeat (first | (with_reducible first | apply WP_seq | apply WP_region | apply wpl_nil | apply thenQ_n) | (apply wlp; ((first | apply pv_move | apply pv_assign | (apply pf_index; exact rfl) | exact pn_32of rfl rfl rfl) <;> (first | exact rfl | assumption)); (first | exact fI rfl | exact fP rfl | exact fS rfl))))
    (apply wls0; exact st_setAt eW _ (A.length + i) ((cy + (du + dv)) % 4294967296) hp 0 rfl hv (by simp; omega) rfl (by omega) rfl (fun _ => rfl) rfl rfl (sizeTy_ok rfl); rintro _ w4 ⟨rfl, hp⟩)
    have hv := hv.set (A.length + i) ((cy + (du + dv)) % 4294967296)
    rw [set_mid hiz] at hv
    simp only [List.set_cons_zero] at hp
    rw [set_mid hiz] at hp
    (repeat (first | (with_reducible first | apply WP_region | apply wpl_nil | apply thenQ_n) | (apply wlp; apply pv_move; exact fI rfl)))
    (apply wlp; exact pn_shr (b := 32) rfl rfl (by decide); exact fI rfl)
    (repeat (first | (with_reducible first | apply WP_region | apply wpl_nil | apply thenQ_n | apply inBlk_n) | (apply wlp; apply pv_assign; exact fI rfl)))
    (apply wlp; exact pv_add rfl rfl; exact int_eq (i64_in (by omega) (by omega)))
    (repeat (first | (with_reducible first | apply wpl_nil | apply thenQ_n) | (apply wlp; apply pv_move; exact fI rfl)))
    refine ⟨i + 1, _, z.set i ((cy + (du + dv)) % 4294967296), put_self (put_self (Same.eq (by repeat (first | exact Same.hav | exact Same.refl | refine Same.put rfl ?_ | refine Same.havs rfl ?_))) rfl) rfl, ⟨by omega, ?_, hzb.set (by omega), htl.set hiz him, by omega, ?_, hv, hp⟩, by omega⟩
    · rw [List.length_set, hzl]
    · rw [val_take_set hiz]
      refine add_step hval ?_
      rw [← hgm, ← hg]
      omega
  · obtain rfl : i = vl.length := by omega
    have hlt1 : vl.length < vl.length + 1 := by omega
    have hiz : vl.length < z.length := by omega
    have him : vl.length < m.length := by omega
    have hcz := own_elem hp 0 rfl hv (fun _ => rfl) (get_mid (A := A) (C := C) hiz) 0 _ rfl
    have hdu := htl.get hiz him
    have hgm := l_get hbm him
    have hzo := hzb.get hiz
    rw [← hdu] at hgm
    generalize z[vl.length] = du at hcz hgm hzo
    have hcz : w3.cell? ⟨g, 0 + A.length * 1 + vl.length * 1, none⟩ = some (.int .u32 (du : Int)) := by
      rw [show 0 + A.length * 1 + vl.length * 1 = 0 + (A.length + vl.length) * 1 + 0 from by omega]
      exact hcz
    (repeat (first | (with_reducible first | apply WP_region | apply thenQ_n | apply thenQ_exit | apply WP_exit) | ((with_reducible apply inBlk_same); exact rfl) | (apply wlp; ((first | apply pv_move | (apply pf_load; exact rfl) | (apply pf_len; exact rfl) | (apply pf_index; exact rfl) | exact pn_32of rfl rfl rfl) <;> (first | exact rfl | assumption)); (first | exact fI rfl | exact fP rfl | exact fS rfl))))
    (apply wlp; exact pn_add32 rfl rfl; exact int_eq (b := (((du + cy) % 4294967296 : Nat) : Int)) (by rw [Nat.mod_eq_of_lt (show cy < 4294967296 by omega)]))
    (repeat (apply wlp; ((apply pf_index; exact rfl) <;> (first | exact rfl | assumption)); exact fP rfl))
    (apply wls0; exact st_setAt eW _ (A.length + vl.length) ((du + cy) % 4294967296) hp 0 rfl hv (by simp; omega) rfl (by omega) rfl (fun _ => rfl) rfl rfl (sizeTy_ok rfl); rintro _ w4 ⟨rfl, hp⟩)
    simp only [List.set_cons_zero] at hp
    rw [set_mid hiz] at hp
    (repeat with_reducible apply wpl_nil)
    refine ret_none rfl ⟨_, rfl, z.set vl.length ((du + cy) % 4294967296), ?_, hzb.set (by omega), ?_, hp.keeps, hp.has 0 _ rfl g rfl⟩
    · rw [List.length_set, hzl, hml]
    · have h1 := val_take_set (b := 4294967296) (d := (du + cy) % 4294967296) hiz
      rw [List.take_of_length_le (by simp; omega)] at h1
      have hV : val 4294967296 (z.take vl.length) < 4294967296 ^ vl.length := by
        have := val_lt (hzb.take vl.length)
        rwa [List.length_take, Nat.min_eq_left (by omega)] at this
      rw [h1, hgm]
      exact put_end (by decide) hval hV hvv hmm
end Go.Proofs.YteklkjnhefnimaaDoor
