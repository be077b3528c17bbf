/- Strings of bytes; strings.TrimLeft of zeros; conditions are the hypotheses of each law. -/
import Derived.Test.YteklkjnhefnimaaDoorDd
import Derived.Test.YteklkjnhefnimaaDoorEngJ
namespace Go.Proofs.YteklkjnhefnimaaDoor
open Go.Eng Go.Dig

/-- bytes as a string -/
def bs (l : List Nat) : ByteArray := ⟨(l.map UInt8.ofNat).toArray⟩
theorem ofN_bs (n : Nat) : ofN n = bs (digs 256 n).reverse := rfl
theorem bs_size (l : List Nat) : (bs l).size = l.length := by
  show ((l.map UInt8.ofNat).toArray).size = _
  simp
theorem bs_at {l : List Nat} (h : Bd 256 l) {i : Nat} (hi : i < l.length) : bAt (bs l) i = (l[i] : Int) := by
  have h1 := h.get hi
  unfold bAt bs
  simp only [List.getElem?_map, List.getElem?_eq_getElem hi, Option.map_some, Option.getD_some]
  simp
  omega
theorem bs_drop (l : List Nat) (k : Nat) : (bs l).extract k (bs l).size = bs (l.drop k) := by
  apply ByteArray.ext
  rw [ByteArray.data_extract, bs_size]
  apply Array.ext'
  simp [bs]
  rw [List.take_of_length_le (by simp)]
theorem bs_nil {l : List Nat} : bs l = ⟨#[]⟩ ↔ l = [] := by
  constructor
  · intro h
    have := congrArg ByteArray.size h
    rw [bs_size] at this
    exact List.eq_nil_of_length_eq_zero this
  · rintro rfl; rfl
theorem bytesOf_data (ns : List Int) : ∀ r : ByteArray, (ns.foldl (fun r n => r.push (UInt8.ofNat n.toNat)) r).data = r.data ++ (ns.map fun n => UInt8.ofNat n.toNat).toArray := by
  induction ns with
  | nil => intro r; simp
  | cons n ns ih =>
    intro r
    rw [List.foldl_cons, ih, ByteArray.data_push]
    simp
theorem bytesOf_bs (l : List Nat) : bytesOf (l.map fun (d : Nat) => (d : Int)) = bs l := by
  apply ByteArray.ext
  unfold bytesOf
  rw [bytesOf_data]
  simp [bs]
theorem strip_dg {x m : Nat} (h : x < 256 ^ m) : (dg 256 x m).reverse.dropWhile (· == 0) = (digs 256 x).reverse := by
  rw [← trim_dg (b := 256) (by decide) h]
  simp [trimL]

section
variable {n : Nat} {F : Fr} {w : World} {d : Option Tmp} {ty : TypeId} {pos : String} {aft : Array Edge} {g : Option (Nat × Bool)} {x y : Operand}
theorem pf_strLo {t k : Nat} {q : IntKind} {l : List Nat} (ht : strTy t = true) (hx : ev n F x = .string (bs l)) (hy : ev n F y = .int q k) (hl : k ≤ l.length) :
    PV Tryd.prog n w F ⟨d, .slice t x (some y) none none, ty, pos, aft, g⟩ (.string (bs (l.drop k))) := by
  rw [← bs_drop]
  exact pv_strLo (strTy_ok ht) hx hy (by rw [bs_size]; exact hl)
theorem pf_at {t i : Nat} {l : List Nat} {k : IntKind} (h : strTy t = true) (hx : ev n F x = .string (bs l)) (hy : ev n F y = .int k i) (hb : Bd 256 l) (hi : i < l.length) : PV Tryd.prog n w F ⟨d, .index t x y, ty, pos, aft, g⟩ (.int .u8 (l[i] : Int)) := by
  rw [← bs_at hb hi]
  exact pf_index_s h hx hy (by rw [bs_size]; exact hi)
theorem pf_lenb {q p : Nat} {l : List Nat} (h : strTy p = true) (hx : ev n F x = .string (bs l)) : PV Tryd.prog n w F ⟨d, .call ⟨.builtin .len, #[x], #[p]⟩, q, pos, aft, g⟩ (.int .i64 l.length) := by
  have := pf_lens (q := q) (w := w) (d := d) (pos := pos) (aft := aft) (g := g) h hx
  rwa [bs_size] at this
end
theorem dropWhile_pos {l : List Nat} (h : l ≠ []) (h0 : l[0]'(List.length_pos_iff.2 h) = 0) : l.dropWhile (· == 0) = (l.drop 1).dropWhile (· == 0) := by
  cases l with
  | nil => exact absurd rfl h
  | cons a l =>
    simp at h0
    subst h0
    simp
theorem dropWhile_neg {l : List Nat} (h : l ≠ []) (h0 : l[0]'(List.length_pos_iff.2 h) ≠ 0) : l.dropWhile (· == 0) = l := by
  cases l with
  | nil => exact absurd rfl h
  | cons a l =>
    simp at h0
    simp [h0]

attribute [local irreducible] PV StepF wpl wpd WP Ret

theorem c93 (l : List Nat) (w : World) (hb : Bd 256 l) (hl : l.length ≤ 9223372036854775807) :
    Ret Tryd.prog 93 [.string (bs l), .int .u8 0] w (fun v w' => v = .string (bs (l.dropWhile (· == 0))) ∧ Keeps [] w w') := by
  refine Ret.of_WP Tryd.func93 rfl Tryd.ntmps93 rfl ?_
  have hp := Hp.start (M := []) (w := w)
  (repeat (first | (with_reducible first | apply WP_seq | apply WP_block | apply WP_region | apply wpl_nil | apply thenQ_n) | (apply wlp; apply pv_assign; exact fT rfl)))
  refine WP_loopS [0, 5, 6, 7, 8, 9, 10, 11, 12, 13, 14, 15] (fun (m : List Nat) F => F.put 0 (.string (bs m))) (fun m w' => Bd 256 m ∧ m.length ≤ 9223372036854775807 ∧ m.dropWhile (· == 0) = l.dropWhile (· == 0) ∧ Hp w [] w' []) (fun m => m.length) l (put_self (Same.eq .refl) rfl) ⟨hb, hl, rfl, hp⟩ ?_
  clear hp hb hl
  rintro u m w1 ⟨hb, hl, he, hp⟩
  rw [← he]
  clear he
  by_cases h0 : m = []
  · subst h0
    (repeat (with_reducible first | apply WP_seq | apply WP_region))
    (apply wlp; apply pv_move; exact fT rfl)
    (apply wlp; exact pf_lenb rfl rfl; exact fI rfl)
    (apply wlp; exact pv_gtr rfl rfl; exact bool_eq (b := false) (decide_eq_false (by simp)))
    (repeat (first | (with_reducible first | apply wpl_nil | apply thenQ_n) | (apply wlp; (intros; (first | apply pv_move | exact pv_andF rfl)); (intros; exact fB rfl)) | (apply wlpF; exact rfl; exact rfl; exact rfl) | (apply wlpU; exact rfl; exact rfl)))
    refine WP_cond_f rfl ?_
    (repeat (first | (with_reducible first | apply WP_seq | apply WP_region | apply wpl_nil | apply thenQ_n | apply thenQ_exit | apply WP_ret | apply WP_exit) | ((with_reducible apply inBlk_same); exact rfl) | (apply wlp; (first | apply pv_move | apply pv_assign); exact fT rfl)))
    exact ret_tmp rfl rfl ⟨_, rfl, rfl, hp.keeps⟩
  · have hpos : 0 < m.length := List.length_pos_iff.2 h0
    (repeat (with_reducible first | apply WP_seq | apply WP_region))
    (apply wlp; apply pv_move; exact fT rfl)
    (apply wlp; exact pf_lenb rfl rfl; exact fI rfl)
    (apply wlp; (exact pv_gtr rfl rfl); exact bool_eq (b := true) (decide_eq_true (by omega)))
    (repeat (first | (apply wlp; (intros; ((first | apply pv_move | apply pf_index_s) <;> exact rfl)); (intros; (first | exact fB rfl | exact fT rfl))) | ((apply wlpT; exact rfl; exact rfl); (((first | apply pv_move | apply pf_index_s) <;> exact rfl)); (intros; (first | exact fB rfl | exact fT rfl))) | (apply wlpF; exact rfl; exact rfl; exact rfl) | (apply wlpU; exact rfl; exact rfl)))
    (apply wlpT; exact rfl; exact rfl; exact pf_at (i := 0) rfl rfl rfl hb hpos; exact fI rfl)
    (repeat (first | (with_reducible first | apply wpl_nil | apply thenQ_n) | (apply wlp; (intros; ((first | apply pv_move | exact pv_andT rfl rfl | (apply pv_eql; (first | exact rfl | exact ev_sel rfl (by assumption)))) <;> exact rfl)); (intros; (first | exact fI rfl | exact fB rfl))) | ((apply wlpT; exact rfl; exact rfl); (((first | apply pv_move | exact pv_andT rfl rfl | (apply pv_eql; (first | exact rfl | exact ev_sel rfl (by assumption)))) <;> exact rfl)); (intros; (first | exact fI rfl | exact fB rfl))) | (apply wlpF; exact rfl; exact rfl; exact rfl) | (apply wlpU; exact rfl; exact rfl)))
    refine WP_cond_d rfl (fun h => ?_) (fun h => ?_)
    · have hz : m[0] = 0 := by omega
      (repeat (first | (with_reducible first | apply WP_block | apply WP_region | apply thenQ_n | apply WP_skip) | (apply wlp; apply pv_move; exact fT rfl)))
      (apply wlp; exact pf_strLo (k := 1) rfl rfl rfl (by omega); exact fT rfl)
      (repeat (first | (with_reducible first | apply wpl_nil | apply thenQ_n | apply inBlk_n) | (apply wlp; apply pv_assign; exact fT rfl)))
      exact ⟨m.drop 1, put_self (Same.eq (by repeat (first | exact Same.hav | exact Same.refl | refine Same.put rfl ?_ | refine Same.havs rfl ?_))) rfl, ⟨hb.drop 1, by simp; omega, (dropWhile_pos h0 hz).symm, hp⟩, by simp; omega⟩
    · have hz : m[0] ≠ 0 := by omega
      (repeat (first | (with_reducible first | apply WP_seq | apply WP_region | apply wpl_nil | apply thenQ_n | apply thenQ_exit | apply WP_ret | apply WP_exit) | ((with_reducible apply inBlk_same); exact rfl) | (apply wlp; (first | apply pv_move | apply pv_assign); exact fT rfl)))
      refine ret_tmp rfl rfl ⟨_, rfl, ?_, hp.keeps⟩
      rw [dropWhile_neg h0 hz]
      rfl
theorem c87 (l : List Nat) (w : World) (hb : Bd 256 l) (hl : l.length ≤ 9223372036854775807) :
    Ret Tryd.prog 87 [.string (bs l), .string ⟨#[0]⟩] w (fun v w' => v = .string (bs (l.dropWhile (· == 0))) ∧ Keeps [] w w') := by
  refine Ret.of_WP Tryd.func87 rfl Tryd.ntmps87 rfl ?_
  have hp := Hp.start (M := []) (w := w)
  by_cases h0 : l = []
  · subst h0
    (repeat (with_reducible first | apply WP_seq | apply WP_region))
    (repeat (first | (with_reducible first | apply WP_seq | apply WP_region | apply wpl_nil | apply thenQ_n) | (apply wlp; (intros; ((first | apply pv_move | apply pv_assign | exact pv_orT rfl | (apply pv_seql; (first | exact rfl | exact ev_sel rfl (by assumption)))) <;> exact rfl)); (intros; (first | exact fB rfl | exact fT rfl))) | (apply wlpF; exact rfl; exact rfl; exact rfl) | (apply wlpU; exact rfl; exact rfl)))
    refine WP_cond_t rfl ?_
    (repeat (first | (with_reducible first | apply WP_seq | apply WP_region | apply wpl_nil | apply thenQ_n | apply thenQ_ret | apply WP_ret) | (apply wlp; (first | apply pv_move | apply pv_assign); exact fT rfl)))
    exact ret_tmp rfl rfl ⟨_, rfl, rfl, hp.keeps⟩
  · have hne : ¬ bs l = ⟨#[]⟩ := fun e => h0 (bs_nil.1 e)
    (repeat (with_reducible first | apply WP_seq | apply WP_region))
    (apply wlp; apply pv_assign; exact fT rfl)
    (repeat (with_reducible first | apply WP_seq | apply WP_region | apply wpl_nil | apply thenQ_n))
    (apply wlp; apply pv_move; exact fT rfl)
    (apply wlp; exact pv_seql rfl rfl; exact bool_eq (b := false) (decide_eq_false hne))
    (repeat (first | (with_reducible first | apply wpl_nil | apply thenQ_n) | (apply wlp; (intros; ((first | apply pv_move | exact pv_orF rfl rfl | (apply pv_seql; (first | exact rfl | exact ev_sel rfl (by assumption)))) <;> exact rfl)); (intros; (first | exact fB rfl | exact fT rfl))) | ((apply wlpT; exact rfl; exact rfl); (((first | apply pv_move | exact pv_orF rfl rfl | (apply pv_seql; (first | exact rfl | exact ev_sel rfl (by assumption)))) <;> exact rfl)); (intros; (first | exact fB rfl | exact fT rfl))) | (apply wlpF; exact rfl; exact rfl; exact rfl) | (apply wlpU; exact rfl; exact rfl)))
    refine WP_cond_f rfl ?_
    (repeat (with_reducible first | apply WP_seq | apply WP_region | apply thenQ_n | apply WP_skip))
    (apply wlp; apply pv_move; exact fT rfl)
    (apply wlp; ((apply pf_lens; exact rfl) <;> exact rfl); exact fI rfl)
    (apply wlp; exact pv_eql rfl rfl; exact bool_eq (b := true) (decide_eq_true rfl))
    (apply wlp; apply pv_move; exact fB rfl)
    ((apply wlpT; exact rfl; exact rfl); (apply pv_move); (intros; exact fT rfl))
    (apply wlpT; exact rfl; exact rfl; exact pf_at (l := [0]) (i := 0) rfl rfl rfl (.cons (by decide) .nil) (by decide); exact fI rfl)
    (apply wlpT; exact rfl; exact rfl; exact pv_lss rfl rfl; exact bool_eq (b := true) rfl)
    (repeat (first | (with_reducible first | apply wpl_nil | apply thenQ_n) | (apply wlp; (intros; exact pv_andT rfl rfl); (intros; exact fB rfl)) | (apply wlpF; exact rfl; exact rfl; exact rfl) | (apply wlpU; exact rfl; exact rfl)))
    refine WP_cond_t rfl ?_
    (repeat (with_reducible first | apply WP_seq | apply WP_region))
    (apply wlp; apply pv_move; exact fT rfl)
    (apply wlp; apply pv_move; exact fT rfl)
    (apply wlp; exact pf_at (l := [0]) (i := 0) rfl rfl rfl (.cons (by decide) .nil) (by decide); exact int_eq (b := 0) rfl)
    (apply wls; exact st_call rfl ent93 rfl (c93 l _ hb hl))
    rintro _ w2 ⟨rfl, hk⟩
    have hp := hp.call hk
    (repeat (first | (with_reducible first | apply wpl_nil | apply thenQ_n | apply thenQ_ret | apply WP_ret) | (apply wlp; apply pv_assign; exact fT rfl)))
    exact ret_tmp rfl rfl ⟨_, rfl, rfl, hp.keeps⟩
theorem c65 (l : List Nat) (w : World) (hb : Bd 256 l) (hl : l.length ≤ 9223372036854775807) :
    Ret Tryd.prog 65 [.string (bs l)] w (fun v w' => v = .string (bs (l.dropWhile (· == 0))) ∧ Keeps [] w w') := by
  refine Ret.of_WP Tryd.func65 rfl Tryd.ntmps65 rfl ?_
  have hp := Hp.start (M := []) (w := w)
  (repeat (first | (with_reducible first | apply WP_seq | apply WP_region | apply wpl_nil | apply thenQ_n) | (apply wlp; (first | apply pv_move | apply pv_assign); exact fT rfl)))
  (apply wls; exact st_call rfl ent87 rfl (c87 l _ hb hl))
  rintro _ w2 ⟨rfl, hk⟩
  have hp := hp.call hk
  (repeat (first | (with_reducible first | apply wpl_nil | apply thenQ_n | apply WP_ret) | (apply wlp; apply pv_assign; exact fT rfl)))
  exact ret_tmp rfl rfl ⟨_, rfl, rfl, hp.keeps⟩
end Go.Proofs.YteklkjnhefnimaaDoor
