/- nat: lists of digits: trim, join, compare; conditions: the lists lie in memory. -/
import Derived.Test.YteklkjnhefnimaaDoorTy
import Derived.Test.YteklkjnhefnimaaDoorEngL
import Derived.Test.YteklkjnhefnimaaDoorNb
namespace Go.Proofs.YteklkjnhefnimaaDoor
open Go.Eng Go.Dig

section
variable {n : Nat} {F : Fr} {w : World} {d : Option Tmp} {ty : TypeId} {pos : String} {aft : Array Edge} {g : Option (Nat × Bool)} {x y : Operand}
theorem pf_sliceHi {t e k m c h : Nat} {q : IntKind} {s : Option Addr} (ht : slTy t = some (e, k)) (hx : ev n F x = .slice s m c) (hy : ev n F y = .int q h) (hh : h ≤ c) :
    PV Tryd.prog n w F ⟨d, .slice t x none (some y) none, ty, pos, aft, g⟩ (.slice s h c) := pv_sliceHi (slTy_ok ht).1 (slTy_ok ht).2 hx hy hh
theorem pf_sliceLH {t e k b o m c l h : Nat} {q q' : IntKind} {lo hi : Operand} (ht : slTy t = some (e, k)) (hx : ev n F x = .slice (some ⟨b, o, none⟩) m c) (hl : ev n F lo = .int q l) (hh : ev n F hi = .int q' h) (h1 : l ≤ h) (h2 : h ≤ c) (h3 : l < c) :
    PV Tryd.prog n w F ⟨d, .slice t x (some lo) (some hi) none, ty, pos, aft, g⟩ (.slice (some ⟨b, o + l * k, none⟩) (h - l) (c - l)) := pv_sliceLH (slTy_ok ht).1 (slTy_ok ht).2 hx hl hh h1 h2 h3
/-- a conversion of a whole number -/
theorem pn_64of32 {t t' : Nat} {q : IntKind} {a : Nat} (h : intTy t = some q) (h' : intTy t' = some .u64) (hx : ev n F x = .int .u32 (a : Int)) (ha : a < 4294967296) : PV Tryd.prog n w F ⟨d, .convert t t' x, ty, pos, aft, g⟩ (.int .u64 (a : Int)) := by
  have := pf_conv (w := w) (d := d) (ty := ty) (pos := pos) (aft := aft) (g := g) h h' hx
  rwa [u64_in (by omega)] at this
theorem pn_32of {t t' : Nat} {k q : IntKind} {a : Nat} (h : intTy t = some q) (h' : intTy t' = some .u32) (hx : ev n F x = .int k (a : Int)) : PV Tryd.prog n w F ⟨d, .convert t t' x, ty, pos, aft, g⟩ (.int .u32 ((a % 4294967296 : Nat) : Int)) := by
  have := pf_conv (w := w) (d := d) (ty := ty) (pos := pos) (aft := aft) (g := g) h h' hx
  rwa [u32_nat] at this
theorem pn_8of {t t' : Nat} {k q : IntKind} {a : Nat} (h : intTy t = some q) (h' : intTy t' = some .u8) (hx : ev n F x = .int k (a : Int)) : PV Tryd.prog n w F ⟨d, .convert t t' x, ty, pos, aft, g⟩ (.int .u8 ((a % 256 : Nat) : Int)) := by
  have := pf_conv (w := w) (d := d) (ty := ty) (pos := pos) (aft := aft) (g := g) h h' hx
  rwa [u8_nat] at this
end

attribute [local irreducible] PV StepF wpl wpd WP Ret

def eW (d : Nat) : List Value := [.int .u32 (d : Int)]
theorem trimL_pre (l : List Nat) : trimL l <+: l := by
  unfold trimL
  have h := List.dropWhile_suffix (l := l.reverse) (· == 0)
  have h2 := List.reverse_prefix.2 h
  rwa [List.reverse_reverse] at h2

theorem c66 (l : List Nat) (s : Option Addr) (c : Nat) (w : World) (hc : l.length ≤ c) (hm : c ≤ maxLen) (hs : SlAt w 1 eW s l) :
    Ret Tryd.prog 66 [.slice s l.length c] w (fun v w' => v = .slice s (trimL l).length c ∧ Keeps [] w w') := by
  have hcm : c ≤ 9223372036854775807 := by unfold maxLen at hm; omega
  refine Ret.of_WP Tryd.func66 rfl Tryd.ntmps66 rfl ?_
  have hp := Hp.start (M := []) (w := w)
  (repeat (first | (with_reducible first | apply WP_seq | apply WP_block | apply WP_region | apply wpl_nil | apply thenQ_n) | (apply wlp; apply pv_assign; exact fS rfl)))
  refine WP_loopS [0, 3, 4, 5, 6, 7, 8, 9, 10, 11, 12, 13, 14, 15, 16, 17, 18, 19] (fun (k : Nat) F => F.put 0 (.slice s k c)) (fun k w' => k ≤ l.length ∧ trimL (l.take k) = trimL l ∧ Hp w [] w' []) (fun k => k) l.length (put_self (Same.eq .refl) rfl) ⟨Nat.le_refl _, by rw [List.take_length], hp⟩ ?_
  clear hp
  rintro u k w1 ⟨hk, ht, hp⟩
  rcases Nat.eq_zero_or_pos k with h0 | h0
  · subst h0
    (repeat (with_reducible first | apply WP_seq | apply WP_region))
    (apply wlp; apply pv_move; exact fS rfl)
    (apply wlp; ((apply pf_len; exact rfl) <;> exact rfl); exact fI rfl)
    (apply wlp; (exact pv_gtr rfl rfl); exact bool_eq (b := false) (decide_eq_false (by omega)))
    (repeat (first | (with_reducible first | apply wpl_nil | apply thenQ_n) | (apply wlp; (intros; (first | apply pv_move | exact pv_andF rfl)); (intros; exact fB rfl)) | (apply wlpF; exact rfl; exact rfl; exact rfl) | (apply wlpU; exact rfl; exact rfl)))
    refine WP_cond_f rfl ?_
    (repeat (first | (with_reducible first | apply WP_seq | apply WP_region | apply wpl_nil | apply thenQ_n | apply thenQ_exit | apply WP_ret | apply WP_exit) | ((with_reducible apply inBlk_same); exact rfl) | (apply wlp; (first | apply pv_move | apply pv_assign); exact fS rfl)))
    refine ret_tmp rfl rfl ⟨_, rfl, sl_eq (m := 0) ?_, hp.keeps⟩
    rw [← ht]
    rfl
  · have hlt : k - 1 < l.length := by omega
    have hkk : k - 1 < k := by omega
    obtain ⟨b0, o0, hs0, hc0⟩ := hs.base (by omega)
    have hci := hc0 (k - 1) _ (List.getElem?_eq_getElem hlt) 0 _ rfl
    have hsn := List.take_succ_eq_append_getElem hlt
    rw [show k - 1 + 1 = k from by omega] at hsn
    (repeat (with_reducible first | apply WP_seq | apply WP_region))
    (apply wlp; apply pv_move; exact fS rfl)
    (apply wlp; ((apply pf_len; exact rfl) <;> exact rfl); exact fI rfl)
    (apply wlp; (exact pv_gtr rfl rfl); exact bool_eq (b := true) (decide_eq_true (by omega)))
    (repeat (first | (apply wlp; (intros; ((first | apply pv_move | (apply pf_len; exact rfl)) <;> exact rfl)); (intros; (first | exact fI rfl | exact fB rfl | exact fS rfl))) | ((apply wlpT; exact rfl; exact rfl); (((first | apply pv_move | (apply pf_len; exact rfl)) <;> exact rfl)); (intros; (first | exact fI rfl | exact fB rfl | exact fS rfl))) | (apply wlpF; exact rfl; exact rfl; exact rfl) | (apply wlpU; exact rfl; exact rfl)))
    (apply wlpT; exact rfl; exact rfl; (exact pv_sub rfl rfl); exact int_eq (b := ((k - 1 : Nat) : Int)) (by rw [i64_in (by omega) (by omega)]; omega))
    (repeat (first | (with_reducible first | apply wpl_nil | apply thenQ_n) | (apply wlp; (intros; ((first | (apply pf_load; exact rfl) | exact pv_andT rfl rfl | (apply pv_eql; (first | exact rfl | exact ev_sel rfl (by assumption))) | (apply pf_index; exact rfl)) <;> (first | exact rfl | assumption | exact hp.old0 (by assumption)))); (intros; (first | exact fI rfl | exact fB rfl | exact fP rfl))) | ((apply wlpT; exact rfl; exact rfl); (((first | (apply pf_load; exact rfl) | exact pv_andT rfl rfl | (apply pv_eql; (first | exact rfl | exact ev_sel rfl (by assumption))) | (apply pf_index; exact rfl)) <;> (first | exact rfl | assumption | exact hp.old0 (by assumption)))); (intros; (first | exact fI rfl | exact fB rfl | exact fP rfl))) | (apply wlpF; exact rfl; exact rfl; exact rfl) | (apply wlpU; exact rfl; exact rfl)))
    refine WP_cond_d rfl (fun h => ?_) (fun h => ?_)
    · have hz : l[k - 1] = 0 := by omega
      (repeat (first | (with_reducible first | apply WP_block | apply WP_region | apply thenQ_n | apply WP_skip) | (apply wlp; ((first | apply pv_move | (apply pf_len; exact rfl)) <;> exact rfl); (first | exact fI rfl | exact fS rfl))))
      (apply wlp; (exact pv_sub rfl rfl); exact int_eq (b := ((k - 1 : Nat) : Int)) (by rw [i64_in (by omega) (by omega)]; omega))
      (apply wlp; exact pf_sliceHi rfl rfl rfl (by omega); exact fS rfl)
      (repeat (first | (with_reducible first | apply wpl_nil | apply thenQ_n | apply inBlk_n) | (apply wlp; apply pv_assign; exact fS rfl)))
      refine ⟨k - 1, put_self (Same.eq (by repeat (first | exact Same.hav | exact Same.refl | refine Same.put rfl ?_ | refine Same.havs rfl ?_))) rfl, ⟨by omega, ?_, hp⟩, by omega⟩
      rw [hsn, hz, trimL_snoc0] at ht
      exact ht
    · have hz : l[k - 1] ≠ 0 := by omega
      (repeat (first | (with_reducible first | apply WP_seq | apply WP_region | apply wpl_nil | apply thenQ_n | apply thenQ_exit | apply WP_ret | apply WP_exit) | ((with_reducible apply inBlk_same); exact rfl) | (apply wlp; (first | apply pv_move | apply pv_assign); exact fS rfl)))
      refine ret_tmp rfl rfl ⟨_, rfl, sl_eq (m := k) ?_, hp.keeps⟩
      rw [hsn, trimL_snoc hz, ← hsn] at ht
      rw [← ht, List.length_take, Nat.min_eq_left hk]
end Go.Proofs.YteklkjnhefnimaaDoor
