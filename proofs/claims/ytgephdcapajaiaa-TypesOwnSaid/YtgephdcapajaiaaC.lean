/- Layer 14: the generic function all, at its five instances; conditions: the list lies in memory, and the condition's contract. -/
import Derived.Test.YtgephdcapajaiaaB
namespace Go.Proofs.Ytgephdcapajaiaa
open Go.Eng
attribute [local irreducible] PV StepF wpl wpd WP Ret

def vT (x : Int × Int) : Value := .agg #[.int .i64 x.1, .int .i64 x.2]
def vP (x : ByteArray × Int) : Value := .agg #[.string x.1, .int .i64 x.2]
def vQ (x : ByteArray × Int × Int) : Value := .agg #[.string x.1, .int .i64 x.2.1, .int .i64 x.2.2]
def vI (x : Int) : Value := .int .i64 x
def vS (x : ByteArray) : Value := .string x


theorem c65 (f : FuncId) (caps : Array Value) (he : Enters Try.prog f) (M : List Nat) (J : Nat → World → Prop) (p : Nat → Bool) (s : Option Addr) (c : Nat) (l : List (ByteArray)) (w : World) (hn : l.length ≤ 1000000000)
    (hs : SlAt w 1 eS s l) (hM : l ≠ [] → ∀ b o, s = some ⟨b, o, none⟩ → b ∉ M) (h0 : J 0 w) (hst : ∀ i w' w'', J i w' → Keeps [] w' w'' → J i w'')
    (hcl : ∀ i x w', l[i]? = some x → J i w' → Ret Try.prog f (vS x :: caps.toList) w' (fun v w'' => v = .bool (p i) ∧ Keeps M w' w'' ∧ (p i = true → J (i + 1) w''))) :
    Ret Try.prog 65 [.slice s l.length c, .func (.func f) #[] caps] w (fun v w' => v = .bool ((List.range l.length).all p) ∧ Keeps M w w' ∧ ((List.range l.length).all p = true → J l.length w')) := by
  refine Ret.of_WP Try.func65 rfl Try.ntmps65 rfl ?_
  have hp := Hp.start (M := []) (w := w)
  (repeat (first | (with_reducible first | apply WP_seq | apply WP_block | apply WP_region | apply wpl_nil | apply thenQ_n) | (apply wlp; ((first | apply pv_move | apply pv_assign | (apply pf_len; exact rfl)) <;> exact rfl); (first | exact fI rfl | exact fB rfl | exact fS rfl))))
  refine WP_loopS [4, 6, 9, 10, 11, 12, 13, 14, 15, 16, 17] (fun (i : Nat) F => F.put 9 (.int .i64 i)) (fun i w' => i ≤ l.length ∧ Keeps M w w' ∧ J i w' ∧ ∀ j, j < i → p j = true) (fun i => l.length - i) 0 (put_self (Same.eq .refl) rfl) ⟨Nat.zero_le _, .refl, h0, by simp⟩ ?_
  clear hp
  rintro u i w1 ⟨hi, hk, hJ, hall⟩
  have hp := Hp.start (M := []) (w := w1)
  (repeat (first | (with_reducible first | apply WP_seq | apply WP_region | apply wpl_nil | apply thenQ_n) | (apply wlp; (apply pv_lss <;> exact rfl); exact fB rfl)))
  refine WP_cond_d rfl (fun h => ?_) (fun h => ?_)
  · have hlt : i < l.length := by omega
    have hx : l[i]? = some l[i] := List.getElem?_eq_getElem hlt
    have hs1 := hs.keep hk hM
    obtain ⟨b0, o0, hs', hc0⟩ := hs1 i _ hx
    (repeat (first | (with_reducible first | apply WP_seq | apply WP_block | apply WP_region | apply thenQ_n | apply WP_skip) | (apply wlp; ((first | (apply pf_load; exact rfl) | (apply pf_index; exact rfl)) <;> (first | exact rfl | assumption)); exact fP rfl)))
    (apply wlp; (apply pf_load; exact rfl; exact rfl; exact hp.old (hc0 0 _ rfl) (by simp)); exact rfl)
    have hJ' := hst i _ _ hJ hp.keeps
    (repeat (first | (with_reducible first | apply WP_seq | apply WP_region | apply wpl_nil | apply thenQ_n) | (apply wlp; (first | apply pv_move | apply pv_assign); (first | exact fT rfl | exact fF rfl))))
    (apply wls; exact st_call rfl he rfl (hcl i _ _ hx hJ'))
    rintro _ w' ⟨rfl, hk', hJ2⟩
    have hk2 : Keeps M w1 w' := (Keeps.refl.trans hp.keeps (by simp)).trans hk' (fun _ h => .inr h)
    have hk3 : Keeps M _ w' := hk.trans hk2 (fun _ h => .inr h)
    (repeat (first | (with_reducible first | apply wpl_nil | apply thenQ_n) | (apply wlp; (apply pv_not <;> exact rfl); exact fB rfl)))
    refine WP_cond rfl (fun hb => ?_) (fun hb => ?_)
    · have hb' : p i = false := by simpa using hb
      (repeat (first | (with_reducible first | apply WP_seq | apply WP_region | apply wpl_nil | apply thenQ_n | apply thenQ_ret | apply inBlk_ret | apply WP_ret) | (apply wlp; exact pv_assign; exact rfl)))
      refine ret_tmp rfl rfl ⟨_, rfl, bool_eq (not_range hlt hb').symm, hk3, fun e => ?_⟩
      rw [not_range hlt hb'] at e
      cases e
    · have hb' : p i = true := by simpa using hb
      (repeat (with_reducible first | apply WP_region | apply thenQ_n | apply inBlk_n | apply WP_skip))
      (apply wlp; exact pv_add rfl rfl; exact int_eq (i64_in (by omega) (by omega)))
      (repeat (first | (with_reducible first | apply wpl_nil | apply thenQ_n) | (apply wlp; apply pv_move; exact fI rfl)))
      exact ⟨i + 1, put_self (Same.eq (by repeat (first | exact Same.hav | exact Same.refl | refine Same.put rfl ?_ | refine Same.havs rfl ?_))) rfl, ⟨by omega, hk3, hJ2 hb', below_succ hall hb'⟩, by omega⟩
  · (repeat (first | (with_reducible first | apply WP_seq | apply WP_region | apply wpl_nil | apply thenQ_n | apply thenQ_exit | apply WP_ret | apply WP_exit) | ((with_reducible apply inBlk_same); exact rfl) | (apply wlp; apply pv_assign; exact fB rfl)))
    have e : i = l.length := by omega
    subst e
    exact ret_tmp rfl rfl ⟨_, rfl, bool_eq (all_range hall).symm, hk, fun _ => hJ⟩


theorem c89 (f : FuncId) (caps : Array Value) (he : Enters Try.prog f) (M : List Nat) (J : Nat → World → Prop) (p : Nat → Bool) (s : Option Addr) (c : Nat) (l : List (Int)) (w : World) (hn : l.length ≤ 1000000000)
    (hs : SlAt w 1 eI s l) (hM : l ≠ [] → ∀ b o, s = some ⟨b, o, none⟩ → b ∉ M) (h0 : J 0 w) (hst : ∀ i w' w'', J i w' → Keeps [] w' w'' → J i w'')
    (hcl : ∀ i x w', l[i]? = some x → J i w' → Ret Try.prog f (vI x :: caps.toList) w' (fun v w'' => v = .bool (p i) ∧ Keeps M w' w'' ∧ (p i = true → J (i + 1) w''))) :
    Ret Try.prog 89 [.slice s l.length c, .func (.func f) #[] caps] w (fun v w' => v = .bool ((List.range l.length).all p) ∧ Keeps M w w' ∧ ((List.range l.length).all p = true → J l.length w')) := by
  refine Ret.of_WP Try.func89 rfl Try.ntmps89 rfl ?_
  have hp := Hp.start (M := []) (w := w)
  (repeat (first | (with_reducible first | apply WP_seq | apply WP_block | apply WP_region | apply wpl_nil | apply thenQ_n) | (apply wlp; ((first | apply pv_move | apply pv_assign | (apply pf_len; exact rfl)) <;> exact rfl); (first | exact fI rfl | exact fB rfl | exact fS rfl))))
  refine WP_loopS [4, 6, 9, 10, 11, 12, 13, 14, 15, 16, 17] (fun (i : Nat) F => F.put 9 (.int .i64 i)) (fun i w' => i ≤ l.length ∧ Keeps M w w' ∧ J i w' ∧ ∀ j, j < i → p j = true) (fun i => l.length - i) 0 (put_self (Same.eq .refl) rfl) ⟨Nat.zero_le _, .refl, h0, by simp⟩ ?_
  clear hp
  rintro u i w1 ⟨hi, hk, hJ, hall⟩
  have hp := Hp.start (M := []) (w := w1)
  (repeat (first | (with_reducible first | apply WP_seq | apply WP_region | apply wpl_nil | apply thenQ_n) | (apply wlp; (apply pv_lss <;> exact rfl); exact fB rfl)))
  refine WP_cond_d rfl (fun h => ?_) (fun h => ?_)
  · have hlt : i < l.length := by omega
    have hx : l[i]? = some l[i] := List.getElem?_eq_getElem hlt
    have hs1 := hs.keep hk hM
    obtain ⟨b0, o0, hs', hc0⟩ := hs1 i _ hx
    (repeat (first | (with_reducible first | apply WP_seq | apply WP_block | apply WP_region | apply thenQ_n | apply WP_skip) | (apply wlp; ((first | (apply pf_load; exact rfl) | (apply pf_index; exact rfl)) <;> (first | exact rfl | assumption)); exact fP rfl)))
    (apply wlp; (apply pf_load; exact rfl; exact rfl; exact hp.old (hc0 0 _ rfl) (by simp)); exact rfl)
    have hJ' := hst i _ _ hJ hp.keeps
    (repeat (first | (with_reducible first | apply WP_seq | apply WP_region | apply wpl_nil | apply thenQ_n) | (apply wlp; (first | apply pv_move | apply pv_assign); (first | exact fI rfl | exact fF rfl))))
    (apply wls; exact st_call rfl he rfl (hcl i _ _ hx hJ'))
    rintro _ w' ⟨rfl, hk', hJ2⟩
    have hk2 : Keeps M w1 w' := (Keeps.refl.trans hp.keeps (by simp)).trans hk' (fun _ h => .inr h)
    have hk3 : Keeps M _ w' := hk.trans hk2 (fun _ h => .inr h)
    (repeat (first | (with_reducible first | apply wpl_nil | apply thenQ_n) | (apply wlp; (apply pv_not <;> exact rfl); exact fB rfl)))
    refine WP_cond rfl (fun hb => ?_) (fun hb => ?_)
    · have hb' : p i = false := by simpa using hb
      (repeat (first | (with_reducible first | apply WP_seq | apply WP_region | apply wpl_nil | apply thenQ_n | apply thenQ_ret | apply inBlk_ret | apply WP_ret) | (apply wlp; exact pv_assign; exact rfl)))
      refine ret_tmp rfl rfl ⟨_, rfl, bool_eq (not_range hlt hb').symm, hk3, fun e => ?_⟩
      rw [not_range hlt hb'] at e
      cases e
    · have hb' : p i = true := by simpa using hb
      (repeat (with_reducible first | apply WP_region | apply thenQ_n | apply inBlk_n | apply WP_skip))
      (apply wlp; exact pv_add rfl rfl; exact int_eq (i64_in (by omega) (by omega)))
      (repeat (first | (with_reducible first | apply wpl_nil | apply thenQ_n) | (apply wlp; apply pv_move; exact fI rfl)))
      exact ⟨i + 1, put_self (Same.eq (by repeat (first | exact Same.hav | exact Same.refl | refine Same.put rfl ?_ | refine Same.havs rfl ?_))) rfl, ⟨by omega, hk3, hJ2 hb', below_succ hall hb'⟩, by omega⟩
  · (repeat (first | (with_reducible first | apply WP_seq | apply WP_region | apply wpl_nil | apply thenQ_n | apply thenQ_exit | apply WP_ret | apply WP_exit) | ((with_reducible apply inBlk_same); exact rfl) | (apply wlp; apply pv_assign; exact fB rfl)))
    have e : i = l.length := by omega
    subst e
    exact ret_tmp rfl rfl ⟨_, rfl, bool_eq (all_range hall).symm, hk, fun _ => hJ⟩


theorem c73 (f : FuncId) (caps : Array Value) (he : Enters Try.prog f) (M : List Nat) (J : Nat → World → Prop) (p : Nat → Bool) (s : Option Addr) (c : Nat) (l : List (Int × Int)) (w : World) (hn : l.length ≤ 1000000000)
    (hs : SlAt w 2 eT s l) (hM : l ≠ [] → ∀ b o, s = some ⟨b, o, none⟩ → b ∉ M) (h0 : J 0 w) (hst : ∀ i w' w'', J i w' → Keeps [] w' w'' → J i w'')
    (hcl : ∀ i x w', l[i]? = some x → J i w' → Ret Try.prog f (vT x :: caps.toList) w' (fun v w'' => v = .bool (p i) ∧ Keeps M w' w'' ∧ (p i = true → J (i + 1) w''))) :
    Ret Try.prog 73 [.slice s l.length c, .func (.func f) #[] caps] w (fun v w' => v = .bool ((List.range l.length).all p) ∧ Keeps M w w' ∧ ((List.range l.length).all p = true → J l.length w')) := by
  refine Ret.of_WP Try.func73 rfl Try.ntmps73 rfl ?_
  have hp := Hp.start (M := []) (w := w)
  (repeat (first | (with_reducible first | apply WP_seq | apply WP_block | apply WP_region | apply wpl_nil | apply thenQ_n) | (apply wlp; ((first | apply pv_move | apply pv_assign | (apply pf_len; exact rfl)) <;> exact rfl); (first | exact fI rfl | exact fB rfl | exact fS rfl))))
  refine WP_loopS [4, 6, 9, 10, 11, 12, 13, 14, 15, 16, 17] (fun (i : Nat) F => F.put 9 (.int .i64 i)) (fun i w' => i ≤ l.length ∧ Keeps M w w' ∧ J i w' ∧ ∀ j, j < i → p j = true) (fun i => l.length - i) 0 (put_self (Same.eq .refl) rfl) ⟨Nat.zero_le _, .refl, h0, by simp⟩ ?_
  clear hp
  rintro u i w1 ⟨hi, hk, hJ, hall⟩
  have hp := Hp.start (M := []) (w := w1)
  (repeat (first | (with_reducible first | apply WP_seq | apply WP_region | apply wpl_nil | apply thenQ_n) | (apply wlp; (apply pv_lss <;> exact rfl); exact fB rfl)))
  refine WP_cond_d rfl (fun h => ?_) (fun h => ?_)
  · have hlt : i < l.length := by omega
    have hx : l[i]? = some l[i] := List.getElem?_eq_getElem hlt
    have hs1 := hs.keep hk hM
    obtain ⟨b0, o0, hs', hc0⟩ := hs1 i _ hx
    (repeat (first | (with_reducible first | apply WP_seq | apply WP_block | apply WP_region | apply thenQ_n | apply WP_skip) | (apply wlp; ((first | (apply pf_loadb; exact rfl) | (apply pf_index; exact rfl)) <;> (first | exact rfl | assumption)); exact fP rfl)))
    (apply wlp; (apply pf_loads (vs := eT l[i]); exact rfl; exact rfl; exact rfl; exact rfl; exact fun j v hv => hp.old (hc0 j v hv) (by simp)); exact fA2 rfl)
    (repeat (first | (with_reducible first | apply WP_seq | apply WP_region | apply wpl_nil | apply thenQ_n) | (apply wlp; ((first | apply pv_move | (apply pf_loadb; exact rfl)) <;> (first | exact rfl | exact hp.agg_blk 0 rfl rfl)); (first | exact fF rfl | exact fA2 rfl)) | (apply wls; exact salloc2 hp (zeroTy_ok rfl); rintro _ w ⟨b, rfl, hp⟩) | (apply wls0; exact sstore2 hp 0 rfl rfl rfl rfl (sizeTy_ok rfl) rfl; rintro _ w ⟨rfl, hp⟩)))
    have hJ' := hst i _ _ hJ hp.keeps
    skip
    (apply wls; exact st_call rfl he rfl (hcl i _ _ hx hJ'))
    rintro _ w' ⟨rfl, hk', hJ2⟩
    have hk2 : Keeps M w1 w' := (Keeps.refl.trans hp.keeps (by simp)).trans hk' (fun _ h => .inr h)
    have hk3 : Keeps M _ w' := hk.trans hk2 (fun _ h => .inr h)
    (repeat (first | (with_reducible first | apply wpl_nil | apply thenQ_n) | (apply wlp; (apply pv_not <;> exact rfl); exact fB rfl)))
    refine WP_cond rfl (fun hb => ?_) (fun hb => ?_)
    · have hb' : p i = false := by simpa using hb
      (repeat (first | (with_reducible first | apply WP_seq | apply WP_region | apply wpl_nil | apply thenQ_n | apply thenQ_ret | apply inBlk_ret | apply WP_ret) | (apply wlp; exact pv_assign; exact rfl)))
      refine ret_tmp rfl rfl ⟨_, rfl, bool_eq (not_range hlt hb').symm, hk3, fun e => ?_⟩
      rw [not_range hlt hb'] at e
      cases e
    · have hb' : p i = true := by simpa using hb
      (repeat (with_reducible first | apply WP_region | apply thenQ_n | apply inBlk_n | apply WP_skip))
      (apply wlp; exact pv_add rfl rfl; exact int_eq (i64_in (by omega) (by omega)))
      (repeat (first | (with_reducible first | apply wpl_nil | apply thenQ_n) | (apply wlp; apply pv_move; exact fI rfl)))
      exact ⟨i + 1, put_self (Same.eq (by repeat (first | exact Same.hav | exact Same.refl | refine Same.put rfl ?_ | refine Same.havs rfl ?_))) rfl, ⟨by omega, hk3, hJ2 hb', below_succ hall hb'⟩, by omega⟩
  · (repeat (first | (with_reducible first | apply WP_seq | apply WP_region | apply wpl_nil | apply thenQ_n | apply thenQ_exit | apply WP_ret | apply WP_exit) | ((with_reducible apply inBlk_same); exact rfl) | (apply wlp; apply pv_assign; exact fB rfl)))
    have e : i = l.length := by omega
    subst e
    exact ret_tmp rfl rfl ⟨_, rfl, bool_eq (all_range hall).symm, hk, fun _ => hJ⟩


theorem c77 (f : FuncId) (caps : Array Value) (he : Enters Try.prog f) (M : List Nat) (J : Nat → World → Prop) (p : Nat → Bool) (s : Option Addr) (c : Nat) (l : List (ByteArray × Int)) (w : World) (hn : l.length ≤ 1000000000)
    (hs : SlAt w 2 eP s l) (hM : l ≠ [] → ∀ b o, s = some ⟨b, o, none⟩ → b ∉ M) (h0 : J 0 w) (hst : ∀ i w' w'', J i w' → Keeps [] w' w'' → J i w'')
    (hcl : ∀ i x w', l[i]? = some x → J i w' → Ret Try.prog f (vP x :: caps.toList) w' (fun v w'' => v = .bool (p i) ∧ Keeps M w' w'' ∧ (p i = true → J (i + 1) w''))) :
    Ret Try.prog 77 [.slice s l.length c, .func (.func f) #[] caps] w (fun v w' => v = .bool ((List.range l.length).all p) ∧ Keeps M w w' ∧ ((List.range l.length).all p = true → J l.length w')) := by
  refine Ret.of_WP Try.func77 rfl Try.ntmps77 rfl ?_
  have hp := Hp.start (M := []) (w := w)
  (repeat (first | (with_reducible first | apply WP_seq | apply WP_block | apply WP_region | apply wpl_nil | apply thenQ_n) | (apply wlp; ((first | apply pv_move | apply pv_assign | (apply pf_len; exact rfl)) <;> exact rfl); (first | exact fI rfl | exact fB rfl | exact fS rfl))))
  refine WP_loopS [4, 6, 9, 10, 11, 12, 13, 14, 15, 16, 17] (fun (i : Nat) F => F.put 9 (.int .i64 i)) (fun i w' => i ≤ l.length ∧ Keeps M w w' ∧ J i w' ∧ ∀ j, j < i → p j = true) (fun i => l.length - i) 0 (put_self (Same.eq .refl) rfl) ⟨Nat.zero_le _, .refl, h0, by simp⟩ ?_
  clear hp
  rintro u i w1 ⟨hi, hk, hJ, hall⟩
  have hp := Hp.start (M := []) (w := w1)
  (repeat (first | (with_reducible first | apply WP_seq | apply WP_region | apply wpl_nil | apply thenQ_n) | (apply wlp; (apply pv_lss <;> exact rfl); exact fB rfl)))
  refine WP_cond_d rfl (fun h => ?_) (fun h => ?_)
  · have hlt : i < l.length := by omega
    have hx : l[i]? = some l[i] := List.getElem?_eq_getElem hlt
    have hs1 := hs.keep hk hM
    obtain ⟨b0, o0, hs', hc0⟩ := hs1 i _ hx
    (repeat (first | (with_reducible first | apply WP_seq | apply WP_block | apply WP_region | apply thenQ_n | apply WP_skip) | (apply wlp; ((first | (apply pf_loadb; exact rfl) | (apply pf_index; exact rfl)) <;> (first | exact rfl | assumption)); exact fP rfl)))
    (apply wlp; (apply pf_loads (vs := eP l[i]); exact rfl; exact rfl; exact rfl; exact rfl; exact fun j v hv => hp.old (hc0 j v hv) (by simp)); exact fA2 rfl)
    (repeat (first | (with_reducible first | apply WP_seq | apply WP_region | apply wpl_nil | apply thenQ_n) | (apply wlp; ((first | apply pv_move | (apply pf_loadb; exact rfl)) <;> (first | exact rfl | exact hp.agg_blk 0 rfl rfl)); (first | exact fF rfl | exact fA2 rfl)) | (apply wls; exact salloc2 hp (zeroTy_ok rfl); rintro _ w ⟨b, rfl, hp⟩) | (apply wls0; exact sstore2 hp 0 rfl rfl rfl rfl (sizeTy_ok rfl) rfl; rintro _ w ⟨rfl, hp⟩)))
    have hJ' := hst i _ _ hJ hp.keeps
    skip
    (apply wls; exact st_call rfl he rfl (hcl i _ _ hx hJ'))
    rintro _ w' ⟨rfl, hk', hJ2⟩
    have hk2 : Keeps M w1 w' := (Keeps.refl.trans hp.keeps (by simp)).trans hk' (fun _ h => .inr h)
    have hk3 : Keeps M _ w' := hk.trans hk2 (fun _ h => .inr h)
    (repeat (first | (with_reducible first | apply wpl_nil | apply thenQ_n) | (apply wlp; (apply pv_not <;> exact rfl); exact fB rfl)))
    refine WP_cond rfl (fun hb => ?_) (fun hb => ?_)
    · have hb' : p i = false := by simpa using hb
      (repeat (first | (with_reducible first | apply WP_seq | apply WP_region | apply wpl_nil | apply thenQ_n | apply thenQ_ret | apply inBlk_ret | apply WP_ret) | (apply wlp; exact pv_assign; exact rfl)))
      refine ret_tmp rfl rfl ⟨_, rfl, bool_eq (not_range hlt hb').symm, hk3, fun e => ?_⟩
      rw [not_range hlt hb'] at e
      cases e
    · have hb' : p i = true := by simpa using hb
      (repeat (with_reducible first | apply WP_region | apply thenQ_n | apply inBlk_n | apply WP_skip))
      (apply wlp; exact pv_add rfl rfl; exact int_eq (i64_in (by omega) (by omega)))
      (repeat (first | (with_reducible first | apply wpl_nil | apply thenQ_n) | (apply wlp; apply pv_move; exact fI rfl)))
      exact ⟨i + 1, put_self (Same.eq (by repeat (first | exact Same.hav | exact Same.refl | refine Same.put rfl ?_ | refine Same.havs rfl ?_))) rfl, ⟨by omega, hk3, hJ2 hb', below_succ hall hb'⟩, by omega⟩
  · (repeat (first | (with_reducible first | apply WP_seq | apply WP_region | apply wpl_nil | apply thenQ_n | apply thenQ_exit | apply WP_ret | apply WP_exit) | ((with_reducible apply inBlk_same); exact rfl) | (apply wlp; apply pv_assign; exact fB rfl)))
    have e : i = l.length := by omega
    subst e
    exact ret_tmp rfl rfl ⟨_, rfl, bool_eq (all_range hall).symm, hk, fun _ => hJ⟩


theorem c82 (f : FuncId) (caps : Array Value) (he : Enters Try.prog f) (M : List Nat) (J : Nat → World → Prop) (p : Nat → Bool) (s : Option Addr) (c : Nat) (l : List (ByteArray × Int × Int)) (w : World) (hn : l.length ≤ 1000000000)
    (hs : SlAt w 3 eQ s l) (hM : l ≠ [] → ∀ b o, s = some ⟨b, o, none⟩ → b ∉ M) (h0 : J 0 w) (hst : ∀ i w' w'', J i w' → Keeps [] w' w'' → J i w'')
    (hcl : ∀ i x w', l[i]? = some x → J i w' → Ret Try.prog f (vQ x :: caps.toList) w' (fun v w'' => v = .bool (p i) ∧ Keeps M w' w'' ∧ (p i = true → J (i + 1) w''))) :
    Ret Try.prog 82 [.slice s l.length c, .func (.func f) #[] caps] w (fun v w' => v = .bool ((List.range l.length).all p) ∧ Keeps M w w' ∧ ((List.range l.length).all p = true → J l.length w')) := by
  refine Ret.of_WP Try.func82 rfl Try.ntmps82 rfl ?_
  have hp := Hp.start (M := []) (w := w)
  (repeat (first | (with_reducible first | apply WP_seq | apply WP_block | apply WP_region | apply wpl_nil | apply thenQ_n) | (apply wlp; ((first | apply pv_move | apply pv_assign | (apply pf_len; exact rfl)) <;> exact rfl); (first | exact fI rfl | exact fB rfl | exact fS rfl))))
  refine WP_loopS [4, 6, 9, 10, 11, 12, 13, 14, 15, 16, 17] (fun (i : Nat) F => F.put 9 (.int .i64 i)) (fun i w' => i ≤ l.length ∧ Keeps M w w' ∧ J i w' ∧ ∀ j, j < i → p j = true) (fun i => l.length - i) 0 (put_self (Same.eq .refl) rfl) ⟨Nat.zero_le _, .refl, h0, by simp⟩ ?_
  clear hp
  rintro u i w1 ⟨hi, hk, hJ, hall⟩
  have hp := Hp.start (M := []) (w := w1)
  (repeat (first | (with_reducible first | apply WP_seq | apply WP_region | apply wpl_nil | apply thenQ_n) | (apply wlp; (apply pv_lss <;> exact rfl); exact fB rfl)))
  refine WP_cond_d rfl (fun h => ?_) (fun h => ?_)
  · have hlt : i < l.length := by omega
    have hx : l[i]? = some l[i] := List.getElem?_eq_getElem hlt
    have hs1 := hs.keep hk hM
    obtain ⟨b0, o0, hs', hc0⟩ := hs1 i _ hx
    (repeat (first | (with_reducible first | apply WP_seq | apply WP_block | apply WP_region | apply thenQ_n | apply WP_skip) | (apply wlp; ((first | (apply pf_loadb; exact rfl) | (apply pf_index; exact rfl)) <;> (first | exact rfl | assumption)); exact fP rfl)))
    (apply wlp; (apply pf_loads (vs := eQ l[i]); exact rfl; exact rfl; exact rfl; exact rfl; exact fun j v hv => hp.old (hc0 j v hv) (by simp)); exact fA3 rfl)
    (repeat (first | (with_reducible first | apply WP_seq | apply WP_region | apply wpl_nil | apply thenQ_n) | (apply wlp; ((first | apply pv_move | (apply pf_loadb; exact rfl)) <;> (first | exact rfl | exact hp.agg_blk 0 rfl rfl)); (first | exact fF rfl | exact fA3 rfl)) | (apply wls; exact salloc3 hp (zeroTy_ok rfl); rintro _ w ⟨b, rfl, hp⟩) | (apply wls0; exact sstore3 hp 0 rfl rfl rfl rfl (sizeTy_ok rfl) rfl; rintro _ w ⟨rfl, hp⟩)))
    have hJ' := hst i _ _ hJ hp.keeps
    skip
    (apply wls; exact st_call rfl he rfl (hcl i _ _ hx hJ'))
    rintro _ w' ⟨rfl, hk', hJ2⟩
    have hk2 : Keeps M w1 w' := (Keeps.refl.trans hp.keeps (by simp)).trans hk' (fun _ h => .inr h)
    have hk3 : Keeps M _ w' := hk.trans hk2 (fun _ h => .inr h)
    (repeat (first | (with_reducible first | apply wpl_nil | apply thenQ_n) | (apply wlp; (apply pv_not <;> exact rfl); exact fB rfl)))
    refine WP_cond rfl (fun hb => ?_) (fun hb => ?_)
    · have hb' : p i = false := by simpa using hb
      (repeat (first | (with_reducible first | apply WP_seq | apply WP_region | apply wpl_nil | apply thenQ_n | apply thenQ_ret | apply inBlk_ret | apply WP_ret) | (apply wlp; exact pv_assign; exact rfl)))
      refine ret_tmp rfl rfl ⟨_, rfl, bool_eq (not_range hlt hb').symm, hk3, fun e => ?_⟩
      rw [not_range hlt hb'] at e
      cases e
    · have hb' : p i = true := by simpa using hb
      (repeat (with_reducible first | apply WP_region | apply thenQ_n | apply inBlk_n | apply WP_skip))
      (apply wlp; exact pv_add rfl rfl; exact int_eq (i64_in (by omega) (by omega)))
      (repeat (first | (with_reducible first | apply wpl_nil | apply thenQ_n) | (apply wlp; apply pv_move; exact fI rfl)))
      exact ⟨i + 1, put_self (Same.eq (by repeat (first | exact Same.hav | exact Same.refl | refine Same.put rfl ?_ | refine Same.havs rfl ?_))) rfl, ⟨by omega, hk3, hJ2 hb', below_succ hall hb'⟩, by omega⟩
  · (repeat (first | (with_reducible first | apply WP_seq | apply WP_region | apply wpl_nil | apply thenQ_n | apply thenQ_exit | apply WP_ret | apply WP_exit) | ((with_reducible apply inBlk_same); exact rfl) | (apply wlp; apply pv_assign; exact fB rfl)))
    have e : i = l.length := by omega
    subst e
    exact ret_tmp rfl rfl ⟨_, rfl, bool_eq (all_range hall).symm, hk, fun _ => hJ⟩

end Go.Proofs.Ytgephdcapajaiaa
